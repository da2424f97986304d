/- Contracts of functions, each out of its run by PI. No conditions. -/
import Derived.Test.YtgpchgakonpcfaaGreatDoorC2
namespace Go.Pi
open Go.Proofs
set_option linter.unusedVariables false
set_option linter.unusedSimpArgs false
set_option maxRecDepth 100000
attribute [local irreducible] iterN
abbrev zW : Word := ⟨0, false, ⟨0, 0, 0, 0⟩⟩
abbrev zI : Inst := ⟨0, 0, 0, 0, 0⟩
def readC (m : Mem) (y : Word) (n : Int) : Int := if tryW y n 1 ≠ 0 then tryW y n 1 else if inR n 0 (m.words.length - 1) then 0 else 4
def readM (m : Mem) (y : Word) (n : Int) : Word × Int := if readC m y n ≠ 0 then (zW, readC m y n) else (filterW m.gone (takenW y (m.words.getD n.toNat (FT.zero .word))), 0)
def writeC (m : Mem) (y : Word) (n : Int) (w : Word) : Int := if tryW y n 2 ≠ 0 then tryW y n 2 else if inR n 0 (m.words.length - 1) = false then 4 else if mayPut y w = false then 3 else 0
def fetchI (l : List Inst) (pc : Word) : Inst × Int := if tryW pc pc.n 4 ≠ 0 then (zI, tryW pc pc.n 4) else if inR pc.n 0 (l.length - 1) = false ∨ insOk (l.getD pc.n.toNat (FT.zero .inst)) = false then (zI, 4) else (l.getD pc.n.toNat (FT.zero .inst), 0)
def trapE (c : Int) (pc : Word) : Eff := ⟨c, -1, zW, pc, -1, zW, -1⟩
def madeW (x : Inst) (a b got : Word) : Word :=
  if x.op = 1 then plainW x.n else if x.op = 2 then plainW (IntKind.i64.wrap (a.n + b.n)) else if x.op = 3 then a else if x.op = 4 then weakenW a b.n else if x.op = 5 then narrowW a b.n else
  if x.op = 6 then pointW a (IntKind.i64.wrap (IntKind.i64.wrap (a.n + b.n) + x.n)) else if x.op = 7 then sealBy a b else if x.op = 8 then openBy a b else if x.op = 9 then (if a.is then plainW 1 else plainW 0) else got
def nextW (pc : Word) : Word := pointW pc (IntKind.i64.wrap (pc.n + 1))
def workE (x : Inst) (pc a b got : Word) : Eff :=
  if x.op = 11 then ⟨0, -1, zW, nextW pc, IntKind.i64.wrap (a.n + x.n), b, -1⟩ else
  if x.op = 12 then (if tryW a a.n 4 ≠ 0 then trapE (tryW a a.n 4) pc else ⟨0, x.r, nextW pc, a, -1, zW, -1⟩) else
  if x.op = 13 then ⟨0, -1, zW, if a.n = 0 then pointW pc (IntKind.i64.wrap (pc.n + x.n)) else nextW pc, -1, zW, -1⟩ else
  if x.op = 14 then (if tryW a a.n 32 ≠ 0 then trapE (tryW a a.n 32) pc else ⟨0, -1, zW, nextW pc, -1, zW, a.key.base⟩) else
  if x.op = 15 then trapE 5 pc else
  if hasC x.op 82 then ⟨0, x.r, if 0 ≤ x.r then madeW x a b got else zW, nextW pc, -1, zW, -1⟩ else ⟨0, -1, zW, nextW pc, -1, zW, -1⟩

theorem readC_t {m : Mem} {y : Word} {n : Int} (h : ¬ tryW y n 1 = 0) : readC m y n = tryW y n 1 := if_pos h
theorem readC_b {m : Mem} {y : Word} {n : Int} (h : tryW y n 1 = 0) (hb : n < 0 ∨ m.words.length - 1 < n) : readC m y n = 4 := by
  unfold readC; rw [if_neg (fun q => q h), if_neg (by rw [inR_t]; omega)]
theorem readC_0 {m : Mem} {y : Word} {n : Int} (h : tryW y n 1 = 0) (hb : 0 ≤ n ∧ n ≤ m.words.length - 1) : readC m y n = 0 := by
  unfold readC; rw [if_neg (fun q => q h), if_pos (by rw [inR_t]; omega)]
theorem readM_t {m : Mem} {y : Word} {n : Int} (h : ¬ tryW y n 1 = 0) : readM m y n = (zW, tryW y n 1) := by
  unfold readM; rw [readC_t h, if_pos h]
theorem readM_b {m : Mem} {y : Word} {n : Int} (h : tryW y n 1 = 0) (hb : n < 0 ∨ m.words.length - 1 < n) : readM m y n = (zW, 4) := by
  unfold readM; rw [readC_b h hb, if_pos (by decide)]
theorem readM_0 {m : Mem} {y : Word} {n : Int} (h : tryW y n 1 = 0) (hb : 0 ≤ n ∧ n ≤ m.words.length - 1) : readM m y n = (filterW m.gone (takenW y (m.words.getD n.toNat (FT.zero .word))), 0) := by
  unfold readM; rw [readC_0 h hb, if_neg (fun q => q rfl)]
theorem writeC_t {m : Mem} {y w : Word} {n : Int} (h : ¬ tryW y n 2 = 0) : writeC m y n w = tryW y n 2 := if_pos h
theorem writeC_b {m : Mem} {y w : Word} {n : Int} (h : tryW y n 2 = 0) (hb : n < 0 ∨ m.words.length - 1 < n) : writeC m y n w = 4 := by
  unfold writeC; rw [if_neg (fun q => q h), if_pos (by rw [inR_f]; omega)]
theorem writeC_p {m : Mem} {y w : Word} {n : Int} (h : tryW y n 2 = 0) (hb : 0 ≤ n ∧ n ≤ m.words.length - 1) (hp : mayPut y w = false) : writeC m y n w = 3 := by
  unfold writeC; rw [if_neg (fun q => q h), if_neg (by rw [inR_f]; omega), if_pos hp]
theorem writeC_0 {m : Mem} {y w : Word} {n : Int} (h : tryW y n 2 = 0) (hb : 0 ≤ n ∧ n ≤ m.words.length - 1) (hp : mayPut y w = true) : writeC m y n w = 0 := by
  unfold writeC; rw [if_neg (fun q => q h), if_neg (by rw [inR_f]; omega), if_neg (by rw [hp]; decide)]
theorem fetchI_t {l : List Inst} {pc : Word} (h : ¬ tryW pc pc.n 4 = 0) : fetchI l pc = (zI, tryW pc pc.n 4) := if_pos h
theorem fetchI_b {l : List Inst} {pc : Word} (h : tryW pc pc.n 4 = 0) (hb : pc.n < 0 ∨ l.length - 1 < pc.n) : fetchI l pc = (zI, 4) := by
  unfold fetchI; rw [if_neg (fun q => q h), if_pos (.inl (by rw [inR_f]; omega))]
theorem fetchI_i {l : List Inst} {pc : Word} (h : tryW pc pc.n 4 = 0) (hi : insOk (l.getD pc.n.toNat (FT.zero .inst)) = false) : fetchI l pc = (zI, 4) := by
  unfold fetchI; rw [if_neg (fun q => q h), if_pos (.inr hi)]
theorem fetchI_0 {l : List Inst} {pc : Word} (h : tryW pc pc.n 4 = 0) (hb : 0 ≤ pc.n ∧ pc.n ≤ l.length - 1) (hi : insOk (l.getD pc.n.toNat (FT.zero .inst)) = true) : fetchI l pc = (l.getD pc.n.toNat (FT.zero .inst), 0) := by
  unfold fetchI; rw [if_neg (fun q => q h), if_neg (by rw [inR_f, hi]; rintro (h | h) <;> first | omega | cases h)]
theorem hasR (x : Inst) : hasC x.op 82 = (andI (maskI x.op) 1 != 0) := by
  obtain ⟨op, r, a, b, n⟩ := x
  dsimp only
  by_cases h : 1 ≤ op ∧ op ≤ 15
  · have hop : op = 1 ∨ op = 2 ∨ op = 3 ∨ op = 4 ∨ op = 5 ∨ op = 6 ∨ op = 7 ∨ op = 8 ∨ op = 9 ∨ op = 10 ∨ op = 11 ∨ op = 12 ∨ op = 13 ∨ op = 14 ∨ op = 15 := by omega
    rcases hop with rfl | rfl | rfl | rfl | rfl | rfl | rfl | rfl | rfl | rfl | rfl | rfl | rfl | rfl | rfl <;> decide
  · have e1 : maskI op = 0 := by unfold maskI; rw [if_neg (by rw [inR_t]; exact h)]
    have e2 : formS op = ⟨#[]⟩ := by
      unfold formS
      rw [if_neg (by omega), if_neg (by omega), if_neg (by omega), if_neg (by omega), if_neg (by omega), if_neg (by omega), if_neg (by omega), if_neg (by omega)]
    rw [e1, hasC, e2]; decide

def pf_s_Read : PF := ⟨[.c 6 true 6, .t 7], .r [.box 3 0, .box 4 1, .alloc 6 zcW, .mv 7 (.i 0)] (.r [.L 9 6 4, .m 10 2, .c 11 151 [9, 10, (.i 1)], .m 8 11] (.seq (.r [.m 12 8, .bin 13 .eql 12 (.i 0), .m 14 13, .y 14 15 (.mv 15 2), .y 14 16 (.fa 16 3 0), .y 14 17 (.load 17 false 1 16), .y 14 18 (.len 18 false 17), .y 14 19 (.bin 19 .sub 18 (.i 1)), .y 14 20 (.call (some 20) 53 [15, (.i 0), 19]), .y 14 21 (.bnot 21 20), .pick 22 14 21 .F] (.cond 22 (.reg [.mv 8 (.i 4)]) .skip)) (.seq (.r [.m 23 8, .bin 24 .neq 23 (.i 0)] (.cond 24 (.r [.build 25 zcW [], .m 26 8, .o 6 6 25, .m 7 26] .ret) .skip)) (.seq (.rgd [] [.L 27 2 3, .L 28 6 4, .f 29 3 0, .l 30 1 29, .m 31 2, .ia 32 .word 30 31, .L 33 6 32, .c 34 196 [28, 33], .c 35 103 [27, 34], .o 6 6 35, .mv 7 (.i 0)] (.ts [0, 1, 2, 3, 4, 5, 6] (.one 7 false (.one 8 true (.one 9 true (.tk 10 .d)))))) .ret))))⟩
def c_s_Read : Fun := ⟨193, [], fun ts K => as3 ts fun t0 t1 t2 => arG pMemT t0 fun m => arG pWordT t1 fun y => arC (pI .i64) t2 fun n => chk (LMem m 2147483647) (K (.tup [.g ((readM m y n).1.tc []), .c (.int .i64 (readM m y n).2)]) [])⟩
theorem run_s_Read (m : Mem) (y : Word) (n : Int) (hpre : LMem m 2147483647) : runK [c_s_l1In, c_s_Filter, c_s_Try, c_s_Taken] (0) [] pf_s_Read [tG (m.tc false []), tG (y.tc []), tI .i64 n] fun r o => r = .tup [.g ((readM m y n).1.tc []), .c (.int .i64 (readM m y n).2)] ∧ o = [] := by
  have l2 := hpre.1
  have w1 : IntKind.i64.wrap ((m.words.length : Int) - 1) = (m.words.length : Int) - 1 := wrap_id (by omega) (by omega)
  conv => whnf
  repeat' (first | ((first | refine sel_i (fun h => ?_) (fun h => ?_) | refine chk_c ?_ ?_) <;> conv => whnf) | refine And.intro ?_ rfl | (refine And.intro ?_ ?_ <;> conv => whnf))
  all_goals (try simp only [etaKey, etaWord, etaInst, etaMemory, w1, bne_iff_ne, ne_eq, bne_eq_false_iff_eq, beq_iff_eq, beq_eq_false_iff_ne, Bool.not_eq_true', Bool.not_eq_false', inR_t, inR_f, decide_eq_true_eq, decide_eq_false_iff_not] at *)
  all_goals first
    | (exfalso; omega)
    | (refine ⟨?_⟩; first | assumption | omega | decide)
    | (rw [readM_t (by assumption)]; rfl)
    | (rw [readM_b (by assumption) (by omega)]; rfl)
    | (rw [readM_0 (by assumption) (by omega)]; rfl)
    | trace_state
theorem ok_s_Read : FunOk Tryz.prog c_s_Read := funOk (eK ok_s_l1In (eK ok_s_Filter (eK ok_s_Try (eK ok_s_Taken eN)))) mixd Tryz.func193 (pf := pf_s_Read) (by kernel_rfl) fun ts K h => by
  obtain ⟨t0, t1, t2, rfl, q0⟩ := as3_out h
  obtain ⟨m, rfl, q1⟩ := arG_out rd_mem q0
  obtain ⟨y, rfl, q2⟩ := arG_out rd_word q1
  obtain ⟨n, rfl, q3⟩ := arC_out (rd_int .i64) q2
  obtain ⟨hpre, hk⟩ := chk_o q3
  exact ⟨_, _, hk, nb 3 Tryz.f193 (by kernel_rfl), _, run_s_Read m y n hpre⟩

def pf_i_Read : PF := ⟨[.c 6 true 6, .t 7], .r [.box 3 0, .box 4 1, .alloc 6 zcW, .mv 7 (.i 0)] (.r [.L 9 6 4, .m 10 2, .c 11 241 [9, 10, (.i 1)], .m 8 11] (.seq (.r [.m 12 8, .bin 13 .eql 12 (.i 0), .m 14 13, .y 14 15 (.mv 15 2), .y 14 16 (.fa 16 3 0), .y 14 17 (.load 17 false 1 16), .y 14 18 (.len 18 false 17), .y 14 19 (.bin 19 .sub 18 (.i 1)), .y 14 20 (.call (some 20) 112 [15, (.i 0), 19]), .y 14 21 (.bnot 21 20), .pick 22 14 21 .F] (.cond 22 (.reg [.mv 8 (.i 4)]) .skip)) (.seq (.r [.m 23 8, .bin 24 .neq 23 (.i 0)] (.cond 24 (.r [.build 25 zcW [], .m 26 8, .o 6 6 25, .m 7 26] .ret) .skip)) (.seq (.rgd [] [.L 27 2 3, .L 28 6 4, .f 29 3 0, .l 30 1 29, .m 31 2, .ia 32 .word 30 31, .L 33 6 32, .c 34 245 [28, 33], .c 35 209 [27, 34], .o 6 6 35, .mv 7 (.i 0)] (.ts [0, 1, 2, 3, 4, 5, 6] (.one 7 false (.one 8 true (.one 9 true (.tk 10 .d)))))) .ret))))⟩
def c_i_Read : Fun := ⟨244, [], fun ts K => as3 ts fun t0 t1 t2 => arG pMemT t0 fun m => arG pWordT t1 fun y => arC (pI .i64) t2 fun n => chk (LMem m 2147483647) (K (.tup [.g ((readM m y n).1.tc []), .c (.int .i64 (readM m y n).2)]) [])⟩
theorem run_i_Read (m : Mem) (y : Word) (n : Int) (hpre : LMem m 2147483647) : runK [c_i_in, c_i_Filter, c_i_Try, c_i_Taken] (0) [] pf_i_Read [tG (m.tc false []), tG (y.tc []), tI .i64 n] fun r o => r = .tup [.g ((readM m y n).1.tc []), .c (.int .i64 (readM m y n).2)] ∧ o = [] := by
  have l2 := hpre.1
  have w1 : IntKind.i64.wrap ((m.words.length : Int) - 1) = (m.words.length : Int) - 1 := wrap_id (by omega) (by omega)
  conv => whnf
  repeat' (first | ((first | refine sel_i (fun h => ?_) (fun h => ?_) | refine chk_c ?_ ?_) <;> conv => whnf) | refine And.intro ?_ rfl | (refine And.intro ?_ ?_ <;> conv => whnf))
  all_goals (try simp only [etaKey, etaWord, etaInst, etaMemory, w1, bne_iff_ne, ne_eq, bne_eq_false_iff_eq, beq_iff_eq, beq_eq_false_iff_ne, Bool.not_eq_true', Bool.not_eq_false', inR_t, inR_f, decide_eq_true_eq, decide_eq_false_iff_not] at *)
  all_goals first
    | (exfalso; omega)
    | (refine ⟨?_⟩; first | assumption | omega | decide)
    | (rw [readM_t (by assumption)]; rfl)
    | (rw [readM_b (by assumption) (by omega)]; rfl)
    | (rw [readM_0 (by assumption) (by omega)]; rfl)
    | trace_state
theorem ok_i_Read : FunOk Tryz.prog c_i_Read := funOk (eK ok_i_in (eK ok_i_Filter (eK ok_i_Try (eK ok_i_Taken eN)))) mixd Tryz.func244 (pf := pf_i_Read) (by kernel_rfl) fun ts K h => by
  obtain ⟨t0, t1, t2, rfl, q0⟩ := as3_out h
  obtain ⟨m, rfl, q1⟩ := arG_out rd_mem q0
  obtain ⟨y, rfl, q2⟩ := arG_out rd_word q1
  obtain ⟨n, rfl, q3⟩ := arC_out (rd_int .i64) q2
  obtain ⟨hpre, hk⟩ := chk_o q3
  exact ⟨_, _, hk, nb 3 Tryz.f244 (by kernel_rfl), _, run_i_Read m y n hpre⟩

def pf_s_l8Write : PF := ⟨[.t 8], .r [.box 4 0, .box 5 1, .box 7 3, .mv 8 (.i 0)] (.r [.L 10 6 5, .m 11 2, .c 12 151 [10, 11, (.i 2)], .m 9 12] (.seq (.blk 0 (.r [.m 14 9, .bin 15 .neq 14 (.i 0), .m 13 15] (.cond 13 (.r [.m 16 9, .m 8 16] .ret) (.r [.m 18 2, .f 19 4 0, .l 20 1 19, .len 21 false 20, .bin 22 .sub 21 (.i 1), .c 23 53 [18, (.i 0), 22], .bnot 24 23, .m 17 24] (.cond 17 (.r [.mv 8 (.i 4)] .ret) (.r [.L 26 6 5, .L 27 6 7, .c 28 197 [26, 27], .bnot 29 28, .m 25 29] (.cond 25 (.r [.mv 8 (.i 3)] .ret) .skip))))))) (.r [.mv 8 (.i 0)] .ret)))⟩
def c_s_l8Write : Fun := ⟨148, [], fun ts K => as4 ts fun t0 t1 t2 t3 => arG pMemT t0 fun m => arG pWordT t1 fun y => arC (pI .i64) t2 fun n => arG pWordT t3 fun w => chk (LMem m 2147483647) (K (tN (writeC m y n w)) [])⟩
theorem run_s_l8Write (m : Mem) (y : Word) (n : Int) (w : Word) (hpre : LMem m 2147483647) : runK [c_s_l1In, c_s_Try, c_s_MayPut] (0) [] pf_s_l8Write [tG (m.tc false []), tG (y.tc []), tI .i64 n, tG (w.tc [])] fun r o => r = tN (writeC m y n w) ∧ o = [] := by
  have l2 := hpre.1
  have w1 : IntKind.i64.wrap ((m.words.length : Int) - 1) = (m.words.length : Int) - 1 := wrap_id (by omega) (by omega)
  conv => whnf
  repeat' (first | ((first | refine sel_i (fun h => ?_) (fun h => ?_) | refine chk_c ?_ ?_) <;> conv => whnf) | refine And.intro ?_ rfl | (refine And.intro ?_ ?_ <;> conv => whnf))
  all_goals (try simp only [etaKey, etaWord, etaInst, etaMemory, w1, bne_iff_ne, ne_eq, bne_eq_false_iff_eq, beq_iff_eq, beq_eq_false_iff_ne, Bool.not_eq_true', Bool.not_eq_false', inR_t, inR_f, decide_eq_true_eq, decide_eq_false_iff_not] at *)
  all_goals first
    | (exfalso; omega)
    | (refine ⟨?_⟩; first | assumption | omega | decide)
    | (rw [writeC_t (by assumption)]; done)
    | (rw [writeC_b (by assumption) (by omega)]; done)
    | (rw [writeC_p (by assumption) (by omega) (by assumption)]; done)
    | (rw [writeC_0 (by assumption) (by omega) (by assumption)]; done)
    | trace_state
theorem ok_s_l8Write : FunOk Tryz.prog c_s_l8Write := funOk (eK ok_s_l1In (eK ok_s_Try (eK ok_s_MayPut eN))) mixd Tryz.func148 (pf := pf_s_l8Write) (by kernel_rfl) fun ts K h => by
  obtain ⟨t0, t1, t2, t3, rfl, q0⟩ := as4_out h
  obtain ⟨m, rfl, q1⟩ := arG_out rd_mem q0
  obtain ⟨y, rfl, q2⟩ := arG_out rd_word q1
  obtain ⟨n, rfl, q3⟩ := arC_out (rd_int .i64) q2
  obtain ⟨w, rfl, q4⟩ := arG_out rd_word q3
  obtain ⟨hpre, hk⟩ := chk_o q4
  exact ⟨_, _, hk, nb 4 Tryz.f148 (by kernel_rfl), _, run_s_l8Write m y n w hpre⟩

def pf_i_writeCode : PF := ⟨[.t 8], .r [.box 4 0, .box 5 1, .box 7 3, .mv 8 (.i 0)] (.r [.L 10 6 5, .m 11 2, .c 12 241 [10, 11, (.i 2)], .m 9 12] (.seq (.blk 0 (.r [.m 14 9, .bin 15 .neq 14 (.i 0), .m 13 15] (.cond 13 (.r [.m 16 9, .m 8 16] .ret) (.r [.m 18 2, .f 19 4 0, .l 20 1 19, .len 21 false 20, .bin 22 .sub 21 (.i 1), .c 23 112 [18, (.i 0), 22], .bnot 24 23, .m 17 24] (.cond 17 (.r [.mv 8 (.i 4)] .ret) (.r [.L 26 6 5, .L 27 6 7, .c 28 246 [26, 27], .bnot 29 28, .m 25 29] (.cond 25 (.r [.mv 8 (.i 3)] .ret) .skip))))))) (.r [.mv 8 (.i 0)] .ret)))⟩
def c_i_writeCode : Fun := ⟨214, [], fun ts K => as4 ts fun t0 t1 t2 t3 => arG pMemT t0 fun m => arG pWordT t1 fun y => arC (pI .i64) t2 fun n => arG pWordT t3 fun w => chk (LMem m 2147483647) (K (tN (writeC m y n w)) [])⟩
theorem run_i_writeCode (m : Mem) (y : Word) (n : Int) (w : Word) (hpre : LMem m 2147483647) : runK [c_i_in, c_i_Try, c_i_MayPut] (0) [] pf_i_writeCode [tG (m.tc false []), tG (y.tc []), tI .i64 n, tG (w.tc [])] fun r o => r = tN (writeC m y n w) ∧ o = [] := by
  have l2 := hpre.1
  have w1 : IntKind.i64.wrap ((m.words.length : Int) - 1) = (m.words.length : Int) - 1 := wrap_id (by omega) (by omega)
  conv => whnf
  repeat' (first | ((first | refine sel_i (fun h => ?_) (fun h => ?_) | refine chk_c ?_ ?_) <;> conv => whnf) | refine And.intro ?_ rfl | (refine And.intro ?_ ?_ <;> conv => whnf))
  all_goals (try simp only [etaKey, etaWord, etaInst, etaMemory, w1, bne_iff_ne, ne_eq, bne_eq_false_iff_eq, beq_iff_eq, beq_eq_false_iff_ne, Bool.not_eq_true', Bool.not_eq_false', inR_t, inR_f, decide_eq_true_eq, decide_eq_false_iff_not] at *)
  all_goals first
    | (exfalso; omega)
    | (refine ⟨?_⟩; first | assumption | omega | decide)
    | (rw [writeC_t (by assumption)]; done)
    | (rw [writeC_b (by assumption) (by omega)]; done)
    | (rw [writeC_p (by assumption) (by omega) (by assumption)]; done)
    | (rw [writeC_0 (by assumption) (by omega) (by assumption)]; done)
    | trace_state
theorem ok_i_writeCode : FunOk Tryz.prog c_i_writeCode := funOk (eK ok_i_in (eK ok_i_Try (eK ok_i_MayPut eN))) mixd Tryz.func214 (pf := pf_i_writeCode) (by kernel_rfl) fun ts K h => by
  obtain ⟨t0, t1, t2, t3, rfl, q0⟩ := as4_out h
  obtain ⟨m, rfl, q1⟩ := arG_out rd_mem q0
  obtain ⟨y, rfl, q2⟩ := arG_out rd_word q1
  obtain ⟨n, rfl, q3⟩ := arC_out (rd_int .i64) q2
  obtain ⟨w, rfl, q4⟩ := arG_out rd_word q3
  obtain ⟨hpre, hk⟩ := chk_o q4
  exact ⟨_, _, hk, nb 4 Tryz.f214 (by kernel_rfl), _, run_i_writeCode m y n w hpre⟩

def pf_s_Fetch : PF := ⟨[.c 4 true 5, .t 5], .r [.box 3 1, .alloc 4 zcI, .mv 5 (.i 0)] (.r [.L 7 6 3, .f 8 3 0, .l 9 1 8, .c 10 151 [7, 9, (.i 4)], .m 6 10] (.seq (.r [.m 11 6, .bin 12 .neq 11 (.i 0)] (.cond 12 (.r [.build 13 zcI [], .m 14 6, .o 5 4 13, .m 5 14] .ret) .skip)) (.seq (.r [.f 15 3 0, .l 16 1 15, .m 17 0, .len 18 false 17, .bin 19 .sub 18 (.i 1), .c 20 53 [16, (.i 0), 19], .bnot 21 20, .m 22 21, .n 22 23 (.mv 23 0), .n 22 24 (.fa 24 3 0), .n 22 25 (.load 25 false 1 24), .n 22 26 (.ia 26 .inst 23 25), .n 22 27 (.load 27 true 5 26), .n 22 28 (.call (some 28) 88 [27]), .n 22 29 (.bnot 29 28), .pick 30 22 .T 29] (.cond 30 (.r [.build 31 zcI [], .o 5 4 31, .mv 5 (.i 4)] .ret) .skip)) (.r [.m 32 0, .f 33 3 0, .l 34 1 33, .ia 35 .inst 32 34, .L 36 5 35, .o 5 4 36, .mv 5 (.i 0)] .ret))))⟩
def c_s_Fetch : Fun := ⟨99, [], fun ts K => as2 ts fun t0 t1 => arC (pL .inst) t0 fun l => arG pWordT t1 fun pc => chk (l.length ≤ 2147483647) (K (.tup [.g ((fetchI l pc).1.tc []), .c (.int .i64 (fetchI l pc).2)]) [])⟩
theorem run_s_Fetch (l : List (FT.Ty .inst)) (pc : Word) (hpre : l.length ≤ 2147483647) : runK [c_s_l1In, c_s_InsOk, c_s_Try] (0) [] pf_s_Fetch [tL false .inst l, tG (pc.tc [])] fun r o => r = .tup [.g ((fetchI l pc).1.tc []), .c (.int .i64 (fetchI l pc).2)] ∧ o = [] := by
  have w1 : IntKind.i64.wrap ((l.length : Int) - 1) = (l.length : Int) - 1 := wrap_id (by omega) (by omega)
  conv => whnf
  repeat' (first | ((first | refine sel_i (fun h => ?_) (fun h => ?_) | refine chk_c ?_ ?_) <;> conv => whnf) | refine And.intro ?_ rfl | (refine And.intro ?_ ?_ <;> conv => whnf))
  all_goals (try simp only [etaKey, etaWord, etaInst, etaMemory, w1, bne_iff_ne, ne_eq, bne_eq_false_iff_eq, beq_iff_eq, beq_eq_false_iff_ne, Bool.not_eq_true', Bool.not_eq_false', inR_t, inR_f, decide_eq_true_eq, decide_eq_false_iff_not] at *)
  all_goals first
    | (exfalso; omega)
    | (refine ⟨?_⟩; first | assumption | omega | decide)
    | (rw [fetchI_t (by assumption)]; rfl)
    | (rw [fetchI_b (by assumption) (by omega)]; rfl)
    | (rw [fetchI_i (by assumption) (by assumption)]; rfl)
    | (rw [fetchI_0 (by assumption) (by omega) (by assumption)]; rfl)
    | trace_state
theorem ok_s_Fetch : FunOk Tryz.prog c_s_Fetch := funOk (eK ok_s_l1In (eK ok_s_InsOk (eK ok_s_Try eN))) mixd Tryz.func99 (pf := pf_s_Fetch) (by kernel_rfl) fun ts K h => by
  obtain ⟨t0, t1, rfl, q0⟩ := as2_out h
  obtain ⟨l, rfl, q1⟩ := arC_out (rd_l .inst) q0
  obtain ⟨pc, rfl, q2⟩ := arG_out rd_word q1
  obtain ⟨hpre, hk⟩ := chk_o q2
  exact ⟨_, _, hk, nb 2 Tryz.f99 (by kernel_rfl), _, run_s_Fetch l pc hpre⟩

def pf_i_Fetch : PF := ⟨[.c 4 true 5, .t 5], .r [.box 3 1, .alloc 4 zcI, .mv 5 (.i 0)] (.r [.L 7 6 3, .f 8 3 0, .l 9 1 8, .c 10 241 [7, 9, (.i 4)], .m 6 10] (.seq (.blk 0 (.r [.m 12 6, .bin 13 .neq 12 (.i 0), .m 11 13] (.cond 11 (.r [.build 14 zcI [], .m 15 6, .o 5 4 14, .m 5 15] .ret) (.r [.f 17 3 0, .l 18 1 17, .m 19 0, .len 20 false 19, .bin 21 .sub 20 (.i 1), .c 22 112 [18, (.i 0), 21], .bnot 23 22, .m 24 23, .n 24 25 (.mv 25 0), .n 24 26 (.fa 26 3 0), .n 24 27 (.load 27 false 1 26), .n 24 28 (.ia 28 .inst 25 27), .n 24 29 (.load 29 true 5 28), .n 24 30 (.call (some 30) 114 [29]), .n 24 31 (.bnot 31 30), .pick 32 24 .T 31, .m 16 32] (.cond 16 (.r [.build 33 zcI [], .o 5 4 33, .mv 5 (.i 4)] .ret) .skip))))) (.r [.m 34 0, .f 35 3 0, .l 36 1 35, .ia 37 .inst 34 36, .L 38 5 37, .o 5 4 38, .mv 5 (.i 0)] .ret)))⟩
def c_i_Fetch : Fun := ⟨206, [], fun ts K => as2 ts fun t0 t1 => arC (pL .inst) t0 fun l => arG pWordT t1 fun pc => chk (l.length ≤ 2147483647) (K (.tup [.g ((fetchI l pc).1.tc []), .c (.int .i64 (fetchI l pc).2)]) [])⟩
theorem run_i_Fetch (l : List (FT.Ty .inst)) (pc : Word) (hpre : l.length ≤ 2147483647) : runK [c_i_in, c_i_InsOk, c_i_Try] (0) [] pf_i_Fetch [tL false .inst l, tG (pc.tc [])] fun r o => r = .tup [.g ((fetchI l pc).1.tc []), .c (.int .i64 (fetchI l pc).2)] ∧ o = [] := by
  have w1 : IntKind.i64.wrap ((l.length : Int) - 1) = (l.length : Int) - 1 := wrap_id (by omega) (by omega)
  conv => whnf
  repeat' (first | ((first | refine sel_i (fun h => ?_) (fun h => ?_) | refine chk_c ?_ ?_) <;> conv => whnf) | refine And.intro ?_ rfl | (refine And.intro ?_ ?_ <;> conv => whnf))
  all_goals (try simp only [etaKey, etaWord, etaInst, etaMemory, w1, bne_iff_ne, ne_eq, bne_eq_false_iff_eq, beq_iff_eq, beq_eq_false_iff_ne, Bool.not_eq_true', Bool.not_eq_false', inR_t, inR_f, decide_eq_true_eq, decide_eq_false_iff_not] at *)
  all_goals first
    | (exfalso; omega)
    | (refine ⟨?_⟩; first | assumption | omega | decide)
    | (rw [fetchI_t (by assumption)]; rfl)
    | (rw [fetchI_b (by assumption) (by omega)]; rfl)
    | (rw [fetchI_i (by assumption) (by assumption)]; rfl)
    | (rw [fetchI_0 (by assumption) (by omega) (by assumption)]; rfl)
    | trace_state
theorem ok_i_Fetch : FunOk Tryz.prog c_i_Fetch := funOk (eK ok_i_in (eK ok_i_InsOk (eK ok_i_Try eN))) mixd Tryz.func206 (pf := pf_i_Fetch) (by kernel_rfl) fun ts K h => by
  obtain ⟨t0, t1, rfl, q0⟩ := as2_out h
  obtain ⟨l, rfl, q1⟩ := arC_out (rd_l .inst) q0
  obtain ⟨pc, rfl, q2⟩ := arG_out rd_word q1
  obtain ⟨hpre, hk⟩ := chk_o q2
  exact ⟨_, _, hk, nb 2 Tryz.f206 (by kernel_rfl), _, run_i_Fetch l pc hpre⟩

def pf_s_l9Trap : PF := ⟨[.c 4 true 22], .r [.box 3 1, .alloc 4 zcF] (.r [.m 5 0, .L 6 6 3, .build 7 zcF [(0, 1, 5), (1, 1, (.i (-1))), (8, 6, 6), (14, 1, (.i (-1))), (21, 1, (.i (-1)))], .o 22 4 7] .ret)⟩
def c_s_l9Trap : Fun := ⟨100, [], fun ts K => as2 ts fun t0 t1 => arC (pI .i64) t0 fun c => arG pWordT t1 fun pc => K (tG ((trapE c pc).tc [])) []⟩
theorem run_s_l9Trap (c : Int) (pc : Word) : runK [] (0) [] pf_s_l9Trap [tI .i64 c, tG (pc.tc [])] fun r o => r = tG ((trapE c pc).tc []) ∧ o = [] := by
  conv => whnf
  repeat' (first
    | exact rfl
    | exact trivial
    | (refine sel_i (fun h => ?_) (fun h => ?_) <;> conv => whnf)
    | (refine chk_c ?_ ?_ <;> conv => whnf)
    | (refine And.intro ?_ ?_ <;> conv => whnf))
theorem ok_s_l9Trap : FunOk Tryz.prog c_s_l9Trap := funOk (eN) mixd Tryz.func100 (pf := pf_s_l9Trap) (by kernel_rfl) fun ts K h => by
  obtain ⟨t0, t1, rfl, q0⟩ := as2_out h
  obtain ⟨c, rfl, q1⟩ := arC_out (rd_int .i64) q0
  obtain ⟨pc, rfl, q2⟩ := arG_out rd_word q1
  exact ⟨_, _, q2, nb 2 Tryz.f100 (by kernel_rfl), _, run_s_l9Trap c pc⟩

def pf_i_trapped : PF := ⟨[.c 4 true 22], .r [.box 3 1, .alloc 4 zcF] (.r [.m 5 0, .L 6 6 3, .build 7 zcF [(0, 1, 5), (1, 1, (.i (-1))), (8, 6, 6), (14, 1, (.i (-1))), (21, 1, (.i (-1)))], .o 22 4 7] .ret)⟩
def c_i_trapped : Fun := ⟨207, [], fun ts K => as2 ts fun t0 t1 => arC (pI .i64) t0 fun c => arG pWordT t1 fun pc => K (tG ((trapE c pc).tc [])) []⟩
theorem run_i_trapped (c : Int) (pc : Word) : runK [] (0) [] pf_i_trapped [tI .i64 c, tG (pc.tc [])] fun r o => r = tG ((trapE c pc).tc []) ∧ o = [] := by
  conv => whnf
  repeat' (first
    | exact rfl
    | exact trivial
    | (refine sel_i (fun h => ?_) (fun h => ?_) <;> conv => whnf)
    | (refine chk_c ?_ ?_ <;> conv => whnf)
    | (refine And.intro ?_ ?_ <;> conv => whnf))
theorem ok_i_trapped : FunOk Tryz.prog c_i_trapped := funOk (eN) mixd Tryz.func207 (pf := pf_i_trapped) (by kernel_rfl) fun ts K h => by
  obtain ⟨t0, t1, rfl, q0⟩ := as2_out h
  obtain ⟨c, rfl, q1⟩ := arC_out (rd_int .i64) q0
  obtain ⟨pc, rfl, q2⟩ := arG_out rd_word q1
  exact ⟨_, _, q2, nb 2 Tryz.f207 (by kernel_rfl), _, run_i_trapped c pc⟩

def pf_i_made : PF := ⟨[.c 8 true 6], .r [.box 4 0, .box 5 1, .box 6 2, .box 7 3, .alloc 8 zcW] (.seq (.r [.f 9 4 0, .l 10 1 9] (.blk 0 (.r [.bin 12 .eql 10 (.i 1), .m 11 12] (.cond 11 (.r [.f 13 4 4, .l 14 1 13, .c 15 221 [14], .o 6 8 15] .ret) (.r [.bin 17 .eql 10 (.i 2), .m 16 17] (.cond 16 (.r [.f 18 5 0, .l 19 1 18, .f 20 6 0, .l 21 1 20, .bin 22 .add 19 21, .c 23 221 [22], .o 6 8 23] .ret) (.r [.bin 25 .eql 10 (.i 3), .m 24 25] (.cond 24 (.r [.L 26 6 5, .o 6 8 26] .ret) (.r [.bin 28 .eql 10 (.i 4), .m 27 28] (.cond 27 (.r [.L 29 6 5, .f 30 6 0, .l 31 1 30, .c 32 262 [29, 31], .o 6 8 32] .ret) (.r [.bin 34 .eql 10 (.i 5), .m 33 34] (.cond 33 (.r [.L 35 6 5, .f 36 6 0, .l 37 1 36, .c 38 263 [35, 37], .o 6 8 38] .ret) (.r [.bin 40 .eql 10 (.i 6), .m 39 40] (.cond 39 (.r [.L 41 6 5, .f 42 5 0, .l 43 1 42, .f 44 6 0, .l 45 1 44, .bin 46 .add 43 45, .f 47 4 4, .l 48 1 47, .bin 49 .add 46 48, .c 50 242 [41, 49], .o 6 8 50] .ret) (.r [.bin 52 .eql 10 (.i 7), .m 51 52] (.cond 51 (.r [.L 53 6 5, .L 54 6 6, .c 55 264 [53, 54], .o 6 8 55] .ret) (.r [.bin 57 .eql 10 (.i 8), .m 56 57] (.cond 56 (.r [.L 58 6 5, .L 59 6 6, .c 60 265 [58, 59], .o 6 8 60] .ret) (.r [.bin 62 .eql 10 (.i 9), .m 61 62] (.cond 61 (.seq (.r [.f 63 5 1, .l 64 1 63] (.cond 64 (.r [.c 65 221 [(.i 1)], .o 6 8 65] .ret) .skip)) (.r [.c 66 221 [(.i 0)], .o 6 8 66] .ret)) .skip)))))))))))))))))))) (.r [.L 67 6 7, .o 6 8 67] .ret))⟩
def c_i_made : Fun := ⟨247, [], fun ts K => as4 ts fun t0 t1 t2 t3 => arG pInstT t0 fun x => arG pWordT t1 fun a => arG pWordT t2 fun b => arG pWordT t3 fun got => K (tG ((madeW x a b got).tc [])) []⟩
theorem run_i_made (x : Inst) (a : Word) (b : Word) (got : Word) : runK [c_i_Plain, c_i_Point, c_i_Weaken, c_i_Narrow, c_i_SealBy, c_i_OpenBy] (0) [] pf_i_made [tG (x.tc []), tG (a.tc []), tG (b.tc []), tG (got.tc [])] fun r o => r = tG ((madeW x a b got).tc []) ∧ o = [] := by
  have w1 := True.intro
  conv => whnf
  repeat' (first | ((first | refine sel_i (fun h => ?_) (fun h => ?_) | refine chk_c ?_ ?_) <;> conv => whnf) | refine And.intro ?_ rfl | (refine And.intro ?_ ?_ <;> conv => whnf))
  all_goals (try simp only [etaKey, etaWord, etaInst, etaMemory, w1, bne_iff_ne, ne_eq, bne_eq_false_iff_eq, beq_iff_eq, beq_eq_false_iff_ne, Bool.not_eq_true', Bool.not_eq_false', inR_t, inR_f, decide_eq_true_eq, decide_eq_false_iff_not] at *)
  all_goals first
    | (exfalso; omega)
    | (unfold madeW; simp only [*, if_true, if_false, Int.reduceEq, Bool.false_eq_true]; rfl)
    | trace_state
theorem ok_i_made : FunOk Tryz.prog c_i_made := funOk (eK ok_i_Plain (eK ok_i_Point (eK ok_i_Weaken (eK ok_i_Narrow (eK ok_i_SealBy (eK ok_i_OpenBy eN)))))) mixd Tryz.func247 (pf := pf_i_made) (by kernel_rfl) fun ts K h => by
  obtain ⟨t0, t1, t2, t3, rfl, q0⟩ := as4_out h
  obtain ⟨x, rfl, q1⟩ := arG_out rd_inst q0
  obtain ⟨a, rfl, q2⟩ := arG_out rd_word q1
  obtain ⟨b, rfl, q3⟩ := arG_out rd_word q2
  obtain ⟨got, rfl, q4⟩ := arG_out rd_word q3
  exact ⟨_, _, q4, nb 4 Tryz.f247 (by kernel_rfl), _, run_i_made x a b got⟩

def pf_s_l9Value : PF := ⟨[.c 8 true 6], .r [.box 4 0, .box 5 1, .box 6 2, .box 7 3, .alloc 8 zcW] (.seq (.r [.f 9 4 0, .l 10 1 9] (.blk 0 (.r [.bin 12 .eql 10 (.i 1), .m 11 12] (.cond 11 (.r [.f 13 4 4, .l 14 1 13, .c 15 150 [14], .o 6 8 15] .ret) (.r [.bin 17 .eql 10 (.i 2), .m 16 17] (.cond 16 (.r [.f 18 5 0, .l 19 1 18, .f 20 6 0, .l 21 1 20, .bin 22 .add 19 21, .c 23 150 [22], .o 6 8 23] .ret) (.r [.bin 25 .eql 10 (.i 3), .m 24 25] (.cond 24 (.r [.L 26 6 5, .o 6 8 26] .ret) (.r [.bin 28 .eql 10 (.i 4), .m 27 28] (.cond 27 (.r [.L 29 6 5, .f 30 6 0, .l 31 1 30, .c 32 234 [29, 31], .o 6 8 32] .ret) (.r [.bin 34 .eql 10 (.i 5), .m 33 34] (.cond 33 (.r [.L 35 6 5, .f 36 6 0, .l 37 1 36, .c 38 235 [35, 37], .o 6 8 38] .ret) (.r [.bin 40 .eql 10 (.i 6), .m 39 40] (.cond 39 (.r [.L 41 6 5, .f 42 5 0, .l 43 1 42, .f 44 6 0, .l 45 1 44, .bin 46 .add 43 45, .f 47 4 4, .l 48 1 47, .bin 49 .add 46 48, .c 50 152 [41, 49], .o 6 8 50] .ret) (.r [.bin 52 .eql 10 (.i 7), .m 51 52] (.cond 51 (.r [.L 53 6 5, .L 54 6 6, .c 55 236 [53, 54], .o 6 8 55] .ret) (.r [.bin 57 .eql 10 (.i 8), .m 56 57] (.cond 56 (.r [.L 58 6 5, .L 59 6 6, .c 60 237 [58, 59], .o 6 8 60] .ret) (.r [.bin 62 .eql 10 (.i 10), .m 61 62] (.cond 61 (.r [.L 63 6 7, .o 6 8 63] .ret) .skip)))))))))))))))))))) (.seq (.r [.f 64 5 1, .l 65 1 64] (.cond 65 (.r [.c 66 150 [(.i 1)], .o 6 8 66] .ret) .skip)) (.r [.c 67 150 [(.i 0)], .o 6 8 67] .ret)))⟩
def c_s_l9Value : Fun := ⟨199, [], fun ts K => as4 ts fun t0 t1 t2 t3 => arG pInstT t0 fun x => arG pWordT t1 fun a => arG pWordT t2 fun b => arG pWordT t3 fun got => chk (1 ≤ x.op ∧ x.op ≤ 10) (K (tG ((madeW x a b got).tc [])) [])⟩
theorem run_s_l9Value (x : Inst) (a : Word) (b : Word) (got : Word) (hpre : 1 ≤ x.op ∧ x.op ≤ 10) : runK [c_s_Plain, c_s_Point, c_s_Weaken, c_s_Narrow, c_s_SealBy, c_s_OpenBy] (0) [] pf_s_l9Value [tG (x.tc []), tG (a.tc []), tG (b.tc []), tG (got.tc [])] fun r o => r = tG ((madeW x a b got).tc []) ∧ o = [] := by
  have w1 := True.intro
  conv => whnf
  repeat' (first | ((first | refine sel_i (fun h => ?_) (fun h => ?_) | refine chk_c ?_ ?_) <;> conv => whnf) | refine And.intro ?_ rfl | (refine And.intro ?_ ?_ <;> conv => whnf))
  all_goals (try simp only [etaKey, etaWord, etaInst, etaMemory, w1, bne_iff_ne, ne_eq, bne_eq_false_iff_eq, beq_iff_eq, beq_eq_false_iff_ne, Bool.not_eq_true', Bool.not_eq_false', inR_t, inR_f, decide_eq_true_eq, decide_eq_false_iff_not] at *)
  all_goals first
    | (exfalso; omega)
    | (have e9 : x.op = 9 := by omega
       unfold madeW; simp only [e9, *, if_true, if_false, Int.reduceEq, Bool.false_eq_true]; rfl)
    | (unfold madeW; simp only [*, if_true, if_false, Int.reduceEq, Bool.false_eq_true]; rfl)
    | trace_state
theorem ok_s_l9Value : FunOk Tryz.prog c_s_l9Value := funOk (eK ok_s_Plain (eK ok_s_Point (eK ok_s_Weaken (eK ok_s_Narrow (eK ok_s_SealBy (eK ok_s_OpenBy eN)))))) mixd Tryz.func199 (pf := pf_s_l9Value) (by kernel_rfl) fun ts K h => by
  obtain ⟨t0, t1, t2, t3, rfl, q0⟩ := as4_out h
  obtain ⟨x, rfl, q1⟩ := arG_out rd_inst q0
  obtain ⟨a, rfl, q2⟩ := arG_out rd_word q1
  obtain ⟨b, rfl, q3⟩ := arG_out rd_word q2
  obtain ⟨got, rfl, q4⟩ := arG_out rd_word q3
  obtain ⟨hpre, hk⟩ := chk_o q4
  exact ⟨_, _, hk, nb 4 Tryz.f199 (by kernel_rfl), _, run_s_l9Value x a b got hpre⟩

theorem maskI_out {op : Int} (h : ¬ (1 ≤ op ∧ op ≤ 15)) : maskI op = 0 := by unfold maskI; rw [if_neg (by rw [inR_t]; exact h)]
theorem sets_op {x : Inst} (h : 0 ≤ setsI x) : 1 ≤ x.op ∧ x.op ≤ 15 := by
  by_cases e : 1 ≤ x.op ∧ x.op ≤ 15
  · exact e
  · unfold setsI at h
    rw [maskI_out e, if_pos (by decide)] at h
    omega
theorem setsI_yes {x : Inst} (h : hasC x.op 82 = true) : setsI x = x.r := by
  rw [hasR] at h; unfold setsI; rw [if_neg (by simpa using h)]
theorem setsI_no {x : Inst} (h : hasC x.op 82 = false) : setsI x = -1 := by
  rw [hasR] at h; unfold setsI; rw [if_pos (by simpa using h)]
theorem workE_pos {x : Inst} {pc a b got : Word} (h1 : ¬ x.op = 11) (h2 : ¬ x.op = 12) (h3 : ¬ x.op = 13) (h4 : ¬ x.op = 14) (h5 : ¬ x.op = 15) (h : 0 ≤ setsI x) :
    workE x pc a b got = ⟨0, setsI x, madeW x a b got, nextW pc, -1, zW, -1⟩ := by
  unfold workE
  rw [if_neg h1, if_neg h2, if_neg h3, if_neg h4, if_neg h5]
  cases hb : hasC x.op 82 with
  | true => rw [setsI_yes hb] at h ⊢; rw [if_pos rfl, if_pos h]
  | false => rw [setsI_no hb] at h; omega
theorem workE_neg {x : Inst} {pc a b got : Word} (h1 : ¬ x.op = 11) (h2 : ¬ x.op = 12) (h3 : ¬ x.op = 13) (h4 : ¬ x.op = 14) (h5 : ¬ x.op = 15) (h : ¬ 0 ≤ setsI x) :
    workE x pc a b got = ⟨0, setsI x, zW, nextW pc, -1, zW, -1⟩ := by
  unfold workE
  rw [if_neg h1, if_neg h2, if_neg h3, if_neg h4, if_neg h5]
  cases hb : hasC x.op 82 with
  | true => rw [setsI_yes hb] at h ⊢; rw [if_pos rfl, if_neg h]
  | false => rw [setsI_no hb]; rfl

def pf_i_Work : PF := ⟨[.c 10 true 22], .r [.box 5 0, .box 6 1, .box 7 2, .box 8 3, .box 9 4, .alloc 10 zcF] (.r [.L 12 6 6, .f 13 6 0, .l 14 1 13, .bin 15 .add 14 (.i 1), .c 16 242 [12, 15], .build 17 zcF [(1, 1, (.i (-1))), (8, 6, 16), (14, 1, (.i (-1))), (21, 1, (.i (-1)))], .alloc 11 zcF, .o 22 11 17] (.seq (.r [.f 18 5 0, .l 19 1 18] (.blk 0 (.r [.bin 35 .eql 19 (.i 11), .m 34 35] (.cond 34 (.rgd [] [.f 36 7 0, .l 37 1 36, .f 38 5 4, .l 39 1 38, .bin 40 .add 37 39, .L 41 6 8, .f 42 11 14, .o 1 42 40, .f 43 11 15, .o 6 43 41] (.ts [0, 1, 2, 3, 4, 6] (.alt 5 false (.one 7 true (.tk 8 (.one 9 true (.done (some [6, 10, 11]))))) (.alt 7 true (.one 5 false (.tk 8 (.one 9 true (.done (some [6, 10, 11]))))) .nil)))) (.r [.bin 45 .eql 19 (.i 12), .m 44 45] (.cond 44 (.r [.L 46 6 7, .f 47 7 0, .l 48 1 47, .c 49 241 [46, 48, (.i 4)], .f 50 11 0, .o 1 50 49] (.rgd [] [.f 51 5 1, .l 52 1 51, .f 53 11 8, .L 54 6 53, .L 55 6 7, .f 56 11 1, .o 1 56 52, .f 57 11 2, .o 6 57 54, .f 58 11 8, .o 6 58 55] (.ts [0, 1, 2, 3, 5] (.alt 4 false (.one 6 true (.tk 7 (.one 8 true (.tk 9 (.one 10 true (.done (some [6, 10, 11]))))))) (.alt 6 true (.tk 7 (.alt 4 false (.one 8 true (.tk 9 (.one 10 true (.done (some [6, 10, 11]))))) (.alt 8 true (.one 4 false (.tk 9 (.one 10 true (.done (some [6, 10, 11]))))) .nil))) .nil))))) (.r [.bin 60 .eql 19 (.i 13), .m 59 60] (.cond 59 (.r [.f 61 7 0, .l 62 1 61, .bin 63 .eql 62 (.i 0)] (.cond 63 (.reg [.L 64 6 6, .f 65 6 0, .l 66 1 65, .f 67 5 4, .l 68 1 67, .bin 69 .add 66 68, .c 70 242 [64, 69], .f 71 11 8, .o 6 71 70]) .skip)) (.r [.bin 73 .eql 19 (.i 14), .m 72 73] (.cond 72 (.r [.L 74 6 7, .f 75 7 0, .l 76 1 75, .c 77 241 [74, 76, (.i 32)], .f 78 11 0, .o 1 78 77] (.reg [.f 79 7 2, .f 80 79 0, .l 81 1 80, .f 82 11 21, .o 1 82 81])) (.r [.bin 84 .eql 19 (.i 15), .m 83 84] (.cond 83 (.reg [.f 85 11 0, .s (.store 1 85 (.i 5))]) (.r [.L 20 5 5, .c 21 163 [20, (.k (.v (.c (.int .u8 82))))]] (.cond 21 (.r [.f 22 5 1, .l 23 1 22, .f 24 11 1, .o 1 24 23] (.r [.f 25 5 1, .l 26 1 25, .bin 27 .geq 26 (.i 0)] (.cond 27 (.reg [.L 28 5 5, .L 29 6 7, .L 30 6 8, .L 31 6 9, .c 32 247 [28, 29, 30, 31], .f 33 11 2, .o 6 33 32]) .skip))) .skip)))))))))))))) (.seq (.r [.f 86 11 0, .l 87 1 86, .bin 88 .neq 87 (.i 0)] (.cond 88 (.r [.f 89 11 0, .l 90 1 89, .L 91 6 6, .c 92 207 [90, 91], .o 22 10 92] .ret) .skip)) (.r [.L 93 22 11, .o 22 10 93] .ret))))⟩
def c_i_Work : Fun := ⟨215, [], fun ts K => as5 ts fun t0 t1 t2 t3 t4 => arG pInstT t0 fun x => arG pWordT t1 fun pc => arG pWordT t2 fun a => arG pWordT t3 fun b => arG pWordT t4 fun got => K (tG ((workE x pc a b got).tc [])) []⟩
theorem run_i_Work (x : Inst) (pc : Word) (a : Word) (b : Word) (got : Word) : runK [c_i_hasPart, c_i_trapped, c_i_Try, c_i_Point, c_i_made] (0) [] pf_i_Work [tG (x.tc []), tG (pc.tc []), tG (a.tc []), tG (b.tc []), tG (got.tc [])] fun r o => r = tG ((workE x pc a b got).tc []) ∧ o = [] := by
  have w1 := True.intro
  conv => whnf
  repeat' (first | ((first | refine sel_i (fun h => ?_) (fun h => ?_) | refine chk_c ?_ ?_) <;> conv => whnf) | refine And.intro ?_ rfl | (refine And.intro ?_ ?_ <;> conv => whnf))
  all_goals (try simp only [etaKey, etaWord, etaInst, etaEff, bne_iff_ne, ne_eq, bne_eq_false_iff_eq, beq_iff_eq, beq_eq_false_iff_ne, Bool.not_eq_true', Bool.not_eq_false', decide_eq_true_eq, decide_eq_false_iff_not, ge_iff_le] at *)
  all_goals first
    | (exact absurd trivial h)
    | (exfalso; omega)
    | (refine ⟨?_⟩; first | assumption | omega | decide)
    | (unfold workE nextW; simp only [*, ge_iff_le, ne_eq, not_true_eq_false, not_false_eq_true, if_true, if_false, Int.reduceEq, Bool.false_eq_true]; rfl)
    | trace_state
theorem ok_i_Work : FunOk Tryz.prog c_i_Work := funOk (eK ok_i_hasPart (eK ok_i_trapped (eK ok_i_Try (eK ok_i_Point (eK ok_i_made eN))))) mixd Tryz.func215 (pf := pf_i_Work) (by kernel_rfl) fun ts K h => by
  obtain ⟨t0, t1, t2, t3, t4, rfl, q0⟩ := as5_out h
  obtain ⟨x, rfl, q1⟩ := arG_out rd_inst q0
  obtain ⟨pc, rfl, q2⟩ := arG_out rd_word q1
  obtain ⟨a, rfl, q3⟩ := arG_out rd_word q2
  obtain ⟨b, rfl, q4⟩ := arG_out rd_word q3
  obtain ⟨got, rfl, q5⟩ := arG_out rd_word q4
  exact ⟨_, _, q5, nb 5 Tryz.f215 (by kernel_rfl), _, run_i_Work x pc a b got⟩

def pf_s_Work : PF := ⟨[.c 10 true 22], .r [.box 5 0, .box 6 1, .box 7 2, .box 8 3, .box 9 4, .alloc 10 zcF] (.r [.L 13 6 6, .f 14 6 0, .l 15 1 14, .bin 16 .add 15 (.i 1), .c 17 152 [13, 16], .build 18 zcF [(1, 1, (.i (-1))), (8, 6, 17), (14, 1, (.i (-1))), (21, 1, (.i (-1)))], .alloc 11 zcF, .o 22 11 18] (.r [.mv 12 (.i 0)] (.seq (.r [.f 19 5 0, .l 20 1 19] (.blk 0 (.r [.bin 34 .eql 20 (.i 11), .m 33 34] (.cond 33 (.r [.f 35 7 0, .l 36 1 35, .f 37 5 4, .l 38 1 37, .bin 39 .add 36 38, .f 40 11 14, .o 1 40 39] (.r [.L 41 6 8, .f 42 11 15, .o 6 42 41] (.r [.L 43 22 11, .o 22 10 43] .ret))) (.r [.bin 45 .eql 20 (.i 12), .m 44 45] (.cond 44 (.r [.L 46 6 7, .f 47 7 0, .l 48 1 47, .c 49 151 [46, 48, (.i 4)], .m 12 49] (.r [.f 50 5 1, .l 51 1 50, .f 52 11 1, .o 1 52 51] (.r [.f 53 11 8, .L 54 6 53, .f 55 11 2, .o 6 55 54] (.reg [.L 56 6 7, .f 57 11 8, .o 6 57 56])))) (.r [.bin 59 .eql 20 (.i 13), .m 58 59] (.cond 58 (.seq (.r [.f 60 7 0, .l 61 1 60, .bin 62 .eql 61 (.i 0)] (.cond 62 (.reg [.L 63 6 6, .f 64 6 0, .l 65 1 64, .f 66 5 4, .l 67 1 66, .bin 68 .add 65 67, .c 69 152 [63, 68], .f 70 11 8, .o 6 70 69]) .skip)) (.r [.L 71 22 11, .o 22 10 71] .ret)) (.r [.bin 73 .eql 20 (.i 14), .m 72 73] (.cond 72 (.r [.L 74 6 7, .f 75 7 0, .l 76 1 75, .c 77 151 [74, 76, (.i 32)], .m 12 77] (.reg [.f 78 7 2, .f 79 78 0, .l 80 1 79, .f 81 11 21, .o 1 81 80])) (.r [.bin 83 .eql 20 (.i 15), .m 82 83] (.cond 82 (.reg [.mv 12 (.i 5)]) (.r [.L 21 5 5, .c 22 198 [21], .f 23 11 1, .o 1 23 22] (.r [.f 24 11 1, .l 25 1 24, .bin 26 .geq 25 (.i 0)] (.cond 26 (.reg [.L 27 5 5, .L 28 6 7, .L 29 6 8, .L 30 6 9, .c 31 199 [27, 28, 29, 30], .f 32 11 2, .o 6 32 31]) .skip))))))))))))))) (.seq (.r [.m 84 12, .bin 85 .neq 84 (.i 0)] (.cond 85 (.r [.m 86 12, .L 87 6 6, .c 88 100 [86, 87], .o 22 10 88] .ret) .skip)) (.r [.L 89 22 11, .o 22 10 89] .ret)))))⟩
def c_s_Work : Fun := ⟨149, [], fun ts K => as5 ts fun t0 t1 t2 t3 t4 => arG pInstT t0 fun x => arG pWordT t1 fun pc => arG pWordT t2 fun a => arG pWordT t3 fun b => arG pWordT t4 fun got => K (tG ((workE x pc a b got).tc [])) []⟩
theorem run_s_Work (x : Inst) (pc : Word) (a : Word) (b : Word) (got : Word) : runK [c_s_l9Trap, c_s_Try, c_s_Point, c_s_Sets, c_s_l9Value] (0) [] pf_s_Work [tG (x.tc []), tG (pc.tc []), tG (a.tc []), tG (b.tc []), tG (got.tc [])] fun r o => r = tG ((workE x pc a b got).tc []) ∧ o = [] := by
  have w1 := True.intro
  conv => whnf
  repeat' (first | ((first | refine sel_i (fun h => ?_) (fun h => ?_) | refine chk_c ?_ ?_) <;> conv => whnf) | refine And.intro ?_ rfl | (refine And.intro ?_ ?_ <;> conv => whnf))
  all_goals (try simp only [etaKey, etaWord, etaInst, etaEff, bne_iff_ne, ne_eq, bne_eq_false_iff_eq, beq_iff_eq, beq_eq_false_iff_ne, Bool.not_eq_true', Bool.not_eq_false', decide_eq_true_eq, decide_eq_false_iff_not, ge_iff_le] at *)
  all_goals first
    | (exact absurd trivial h)
    | (exfalso; omega)
    | (refine ⟨?_⟩; first | assumption | omega | decide)
    | (refine ⟨?_⟩; have := sets_op (by assumption); omega)
    | (unfold workE nextW; simp only [*, ge_iff_le, ne_eq, not_true_eq_false, not_false_eq_true, if_true, if_false, Int.reduceEq, Bool.false_eq_true]; rfl)
    | (rw [workE_pos (by assumption) (by assumption) (by assumption) (by assumption) (by assumption) (by assumption)]; rfl)
    | (rw [workE_neg (by assumption) (by assumption) (by assumption) (by assumption) (by assumption) (by assumption)]; rfl)
    | trace_state
theorem ok_s_Work : FunOk Tryz.prog c_s_Work := funOk (eK ok_s_l9Trap (eK ok_s_Try (eK ok_s_Point (eK ok_s_Sets (eK ok_s_l9Value eN))))) mixd Tryz.func149 (pf := pf_s_Work) (by kernel_rfl) fun ts K h => by
  obtain ⟨t0, t1, t2, t3, t4, rfl, q0⟩ := as5_out h
  obtain ⟨x, rfl, q1⟩ := arG_out rd_inst q0
  obtain ⟨pc, rfl, q2⟩ := arG_out rd_word q1
  obtain ⟨a, rfl, q3⟩ := arG_out rd_word q2
  obtain ⟨b, rfl, q4⟩ := arG_out rd_word q3
  obtain ⟨got, rfl, q5⟩ := arG_out rd_word q4
  exact ⟨_, _, q5, nb 5 Tryz.f149 (by kernel_rfl), _, run_s_Work x pc a b got⟩

def memE (m : Mem) (x : Inst) (a b : Word) : Word × Int :=
  if x.op = 10 then readM m a (IntKind.i64.wrap (a.n + x.n)) else if x.op = 11 then (zW, writeC m a (IntKind.i64.wrap (a.n + x.n)) b) else (zW, 0)
def effE (l : List Inst) (s : State) : Eff :=
  let x := (fetchI l s.pc).1
  let a := s.regs.getD x.a.toNat (FT.zero .word)
  let b := s.regs.getD x.b.toNat (FT.zero .word)
  if (fetchI l s.pc).2 ≠ 0 then trapE (fetchI l s.pc).2 s.pc else
  if (memE s.mem x a b).2 ≠ 0 then trapE (memE s.mem x a b).2 s.pc else workE x s.pc a b (memE s.mem x a b).1
def putE (s : State) (e : Eff) : State :=
  ⟨if inR e.r 0 7 then s.regs.set e.r.toNat e.val else s.regs, e.next,
   ⟨if inR e.addr 0 23 then s.mem.words.set e.addr.toNat e.put else s.mem.words, if inR e.drop 0 23 then s.mem.gone.set e.drop.toNat true else s.mem.gone⟩, s.trap⟩
abbrev zState : State := ⟨[], zW, ⟨[], []⟩, 0⟩
def stepS (l : List Inst) (s : State) : State :=
  if stateOk s = false then zState else if s.trap ≠ 0 then s else if (effE l s).trap ≠ 0 then ⟨s.regs, s.pc, s.mem, (effE l s).trap⟩ else putE s (effE l s)
def LenOk (s : State) : Prop := s.regs.length = 8 ∧ s.mem.words.length = 24 ∧ s.mem.gone.length = 24
theorem stateOk_len {s : State} (h : stateOk s = true) : LenOk s := by
  simp only [stateOk, memoryOk, Bool.and_eq_true, decide_eq_true_eq] at h
  exact ⟨h.1.1.1.1, h.1.2.1.1, h.1.2.1.2⟩
theorem LenOk.l {s : State} (h : LenOk s) : LState s 2147483647 := by
  obtain ⟨h1, h2, h3⟩ := h; exact ⟨by omega, by omega, by omega⟩
theorem fld_in {v : Int} {b : Bool} (h : fld v b = true) : 0 ≤ v ∧ v ≤ 7 := by
  simp only [fld, Bool.and_eq_true, inR_t] at h; exact h.1
theorem fetchI_ok {l : List Inst} {pc : Word} (h : (fetchI l pc).2 = 0) : insOk (fetchI l pc).1 = true := by
  unfold fetchI at h ⊢
  split at h
  · contradiction
  · rename_i h1
    rw [if_neg h1]
    split at h
    · cases h
    · rename_i h2
      rw [if_neg h2]
      cases e : insOk (l.getD pc.n.toNat (FT.zero .inst)) with
      | true => rfl
      | false => exact absurd (.inr e) h2
theorem insOk_in {x : Inst} (h : insOk x = true) : (0 ≤ x.a ∧ x.a ≤ 7) ∧ (0 ≤ x.b ∧ x.b ≤ 7) := by
  simp only [insOk, Bool.and_eq_true] at h
  exact ⟨fld_in h.1.1.1.2, fld_in h.1.1.2⟩
theorem fetchI_in {l : List Inst} {pc : Word} (h : (fetchI l pc).2 = 0) : (0 ≤ (fetchI l pc).1.a ∧ (fetchI l pc).1.a ≤ 7) ∧ (0 ≤ (fetchI l pc).1.b ∧ (fetchI l pc).1.b ≤ 7) := insOk_in (fetchI_ok h)
theorem memE_10 {m : Mem} {x : Inst} {a b : Word} (h : x.op = 10) : memE m x a b = readM m a (IntKind.i64.wrap (a.n + x.n)) := if_pos h
theorem memE_11 {m : Mem} {x : Inst} {a b : Word} (h0 : ¬ x.op = 10) (h : x.op = 11) : memE m x a b = (zW, writeC m a (IntKind.i64.wrap (a.n + x.n)) b) := by unfold memE; rw [if_neg h0, if_pos h]
theorem memE_x {m : Mem} {x : Inst} {a b : Word} (h0 : ¬ x.op = 10) (h : ¬ x.op = 11) : memE m x a b = (zW, 0) := by unfold memE; rw [if_neg h0, if_neg h]

def pf_s_l9Mem : PF := ⟨[.c 8 true 6, .t 9], .r [.box 4 0, .box 5 1, .box 6 2, .box 7 3, .alloc 8 zcW, .mv 9 (.i 0)] (.seq (.r [.f 12 5 0, .l 13 1 12] (.blk 0 (.r [.bin 15 .eql 13 (.i 10), .m 14 15] (.cond 14 (.r [.L 17 2 4, .L 18 6 6, .f 19 6 0, .l 20 1 19, .f 21 5 4, .l 22 1 21, .bin 23 .add 20 22, .c 24 193 [17, 18, 23], .m 16 24, .ext 25 16 0, .ext 26 16 1, .alloc 10 zcW, .o 6 10 25, .m 11 26] (.r [.L 27 6 10, .m 28 11, .o 6 8 27, .m 9 28] .ret)) (.r [.bin 30 .eql 13 (.i 11), .m 29 30] (.cond 29 (.r [.build 31 zcW [], .L 32 2 4, .L 33 6 6, .f 34 6 0, .l 35 1 34, .f 36 5 4, .l 37 1 36, .bin 38 .add 35 37, .L 39 6 7, .c 40 148 [32, 33, 38, 39], .o 6 8 31, .m 9 40] .ret) .skip)))))) (.r [.build 41 zcW [], .o 6 8 41, .mv 9 (.i 0)] .ret))⟩
def c_s_l9Mem : Fun := ⟨191, [], fun ts K => as4 ts fun t0 t1 t2 t3 => arG pMemT t0 fun m => arG pInstT t1 fun x => arG pWordT t2 fun a => arG pWordT t3 fun b => chk (LMem m 2147483647) (K (.tup [.g ((memE m x a b).1.tc []), .c (.int .i64 (memE m x a b).2)]) [])⟩
theorem run_s_l9Mem (m : Mem) (x : Inst) (a : Word) (b : Word) (hpre : LMem m 2147483647) : runK [c_s_l8Write, c_s_Read] (0) [] pf_s_l9Mem [tG (m.tc false []), tG (x.tc []), tG (a.tc []), tG (b.tc [])] fun r o => r = .tup [.g ((memE m x a b).1.tc []), .c (.int .i64 (memE m x a b).2)] ∧ o = [] := by
  have w1 := True.intro
  conv => whnf
  repeat' (first | ((first | refine sel_i (fun h => ?_) (fun h => ?_) | refine chk_c ?_ ?_) <;> conv => whnf) | refine And.intro ?_ rfl | (refine And.intro ?_ ?_ <;> conv => whnf))
  all_goals (try simp only [etaKey, etaWord, etaInst, etaMemory, bne_iff_ne, ne_eq, bne_eq_false_iff_eq, beq_iff_eq, beq_eq_false_iff_ne, Bool.not_eq_true', Bool.not_eq_false', decide_eq_true_eq, decide_eq_false_iff_not] at *)
  all_goals first
    | (refine ⟨?_⟩; first | assumption | omega | decide)
    | (rw [memE_10 (by assumption)]; rfl)
    | (rw [memE_11 (by assumption) (by assumption)]; rfl)
    | (rw [memE_x (by assumption) (by assumption)]; rfl)
    | trace_state
theorem ok_s_l9Mem : FunOk Tryz.prog c_s_l9Mem := funOk (eK ok_s_l8Write (eK ok_s_Read eN)) mixd Tryz.func191 (pf := pf_s_l9Mem) (by kernel_rfl) fun ts K h => by
  obtain ⟨t0, t1, t2, t3, rfl, q0⟩ := as4_out h
  obtain ⟨m, rfl, q1⟩ := arG_out rd_mem q0
  obtain ⟨x, rfl, q2⟩ := arG_out rd_inst q1
  obtain ⟨a, rfl, q3⟩ := arG_out rd_word q2
  obtain ⟨b, rfl, q4⟩ := arG_out rd_word q3
  obtain ⟨hpre, hk⟩ := chk_o q4
  exact ⟨_, _, hk, nb 4 Tryz.f191 (by kernel_rfl), _, run_s_l9Mem m x a b hpre⟩

def pf_s_l9Copy : PF := ⟨[.c 2 true 10], .r [.box 1 0, .alloc 2 zcS] (.seq (.rgd [] [.bs 3 .word [], .f 4 1 0, .l 5 1 4, .app 6 .word 3 5, .f 7 1 1, .L 8 6 7, .f 9 1 7, .L 10 2 9, .c 11 102 [10], .f 12 1 9, .l 13 1 12, .build 14 zcS [(0, 1, 6), (1, 6, 8), (7, 2, 11), (9, 1, 13)], .o 10 2 14] (.ts [1, 2, 4, 5, 6, 7, 9, 10] (.one 0 false (.one 3 false (.one 8 false (.tk 11 (.one 12 true .d))))))) .ret)⟩
def c_s_l9Copy : Fun := ⟨87, [], fun ts K => as1 ts fun t0 => arG pStateT t0 fun s => chk (LState s 2147483647) (K (tG (s.tc true [])) [])⟩
theorem run_s_l9Copy (s : State) (hpre : LState s 2147483647) : runK [c_s_l8Copy] (0) [] pf_s_l9Copy [tG (s.tc false [])] fun r o => r = tG (s.tc true []) ∧ o = [] := by
  obtain ⟨l1, l2, l3⟩ := hpre
  conv => whnf
  repeat' (first | (refine chk_c ?_ ?_ <;> conv => whnf) | (refine And.intro ?_ ?_ <;> conv => whnf))
  all_goals first
    | (refine ⟨?_⟩; omega)
    | (refine ⟨?_⟩; simp; done)
    | (refine ⟨?_⟩; simp [LMem, LTwo] at *; omega)
    | rfl
    | exact True.intro
    | exact ⟨rfl, rfl⟩
theorem ok_s_l9Copy : FunOk Tryz.prog c_s_l9Copy := funOk (eK ok_s_l8Copy eN) mixd Tryz.func87 (pf := pf_s_l9Copy) (by kernel_rfl) fun ts K h => by
  obtain ⟨t0, rfl, q0⟩ := as1_out h
  obtain ⟨s, rfl, q1⟩ := arG_out rd_state q0
  obtain ⟨hpre, hk⟩ := chk_o q1
  exact ⟨_, _, hk, nb 1 Tryz.f87 (by kernel_rfl), _, run_s_l9Copy s hpre⟩

def pf_i_cloneState : PF := ⟨[.c 2 true 10], .r [.box 1 0, .alloc 2 zcS] (.seq (.rgd [] [.f 3 1 0, .l 4 1 3, .c 5 156 [4], .f 6 1 7, .L 7 2 6, .c 8 157 [7], .f 9 1 0, .o 1 9 5, .f 10 1 7, .o 2 10 8] (.ts [0, 1, 3, 4] (.one 2 false (.tk 6 (.one 5 true (.one 7 true (.tk 8 (.one 9 true .d)))))))) (.r [.L 11 10 1, .o 10 2 11] .ret))⟩
def c_i_cloneState : Fun := ⟨108, [], fun ts K => as1 ts fun t0 => arG pStateT t0 fun s => chk (LState s 2147483647) (K (tG (s.tc true [])) [])⟩
theorem run_i_cloneState (s : State) (hpre : LState s 2147483647) : runK [c_slices_Clone_Word, c_i_cloneMemory] (0) [] pf_i_cloneState [tG (s.tc false [])] fun r o => r = tG (s.tc true []) ∧ o = [] := by
  obtain ⟨l1, l2, l3⟩ := hpre
  conv => whnf
  repeat' (first | (refine chk_c ?_ ?_ <;> conv => whnf) | (refine And.intro ?_ ?_ <;> conv => whnf))
  all_goals first
    | (refine ⟨?_⟩; omega)
    | (refine ⟨?_⟩; simp; done)
    | (refine ⟨?_⟩; simp [LMem, LTwo] at *; omega)
    | rfl
    | exact True.intro
    | exact ⟨rfl, rfl⟩
theorem ok_i_cloneState : FunOk Tryz.prog c_i_cloneState := funOk (eK ok_slices_Clone_Word (eK ok_i_cloneMemory eN)) mixd Tryz.func108 (pf := pf_i_cloneState) (by kernel_rfl) fun ts K h => by
  obtain ⟨t0, rfl, q0⟩ := as1_out h
  obtain ⟨s, rfl, q1⟩ := arG_out rd_state q0
  obtain ⟨hpre, hk⟩ := chk_o q1
  exact ⟨_, _, hk, nb 1 Tryz.f108 (by kernel_rfl), _, run_i_cloneState s hpre⟩

def pf_i_effectOf : PF := ⟨[.c 4 true 22], .r [.box 3 1, .alloc 4 zcF] (.r [.m 11 0, .f 12 3 1, .L 13 6 12, .c 14 206 [11, 13], .m 10 14, .ext 15 10 0, .ext 16 10 1, .alloc 5 zcI, .o 5 5 15, .m 6 16] (.seq (.r [.m 17 6, .bin 18 .neq 17 (.i 0)] (.cond 18 (.r [.m 19 6, .f 20 3 1, .L 21 6 20, .c 22 207 [19, 21], .o 22 4 22] .ret) .skip)) (.seq (.rgd [] [.f 23 3 0, .l 24 1 23, .f 25 5 2, .l 26 1 25, .ia 27 .word 24 26, .L 28 6 27, .f 29 3 0, .l 30 1 29, .f 31 5 3, .l 32 1 31, .ia 33 .word 30 32, .L 34 6 33, .alloc 7 zcW, .alloc 8 zcW, .o 6 7 28, .o 6 8 34] (.ts [0, 1, 2, 3, 4, 5, 6, 7, 8, 9, 10, 11] (.alt 12 false (.one 13 false (.one 14 false (.one 15 true (.done (some [3, 4, 5, 6, 7, 8]))))) (.alt 13 false (.one 12 false (.one 14 false (.one 15 true (.done (some [3, 4, 5, 6, 7, 8]))))) .nil)))) (.r [.build 35 zcW [], .alloc 9 zcW, .o 6 9 35] (.seq (.r [.f 36 5 0, .l 37 1 36] (.blk 0 (.r [.bin 39 .eql 37 (.i 10), .m 38 39] (.cond 38 (.reg [.f 41 3 7, .L 42 2 41, .L 43 6 7, .f 44 7 0, .l 45 1 44, .f 46 5 4, .l 47 1 46, .bin 48 .add 45 47, .c 49 244 [42, 43, 48], .m 40 49, .ext 50 40 0, .ext 51 40 1, .o 6 9 50, .m 6 51]) (.r [.bin 53 .eql 37 (.i 11), .m 52 53] (.cond 52 (.reg [.f 54 3 7, .L 55 2 54, .L 56 6 7, .f 57 7 0, .l 58 1 57, .f 59 5 4, .l 60 1 59, .bin 61 .add 58 60, .L 62 6 8, .c 63 214 [55, 56, 61, 62], .m 6 63]) .skip)))))) (.seq (.r [.m 64 6, .bin 65 .neq 64 (.i 0)] (.cond 65 (.r [.m 66 6, .f 67 3 1, .L 68 6 67, .c 69 207 [66, 68], .o 22 4 69] .ret) .skip)) (.r [.L 70 5 5, .f 71 3 1, .L 72 6 71, .L 73 6 7, .L 74 6 8, .L 75 6 9, .c 76 215 [70, 72, 73, 74, 75], .o 22 4 76] .ret)))))))⟩
def c_i_effectOf : Fun := ⟨222, [], fun ts K => as2 ts fun t0 t1 => arC (pL .inst) t0 fun l => arG pStateT t1 fun s => chk (l.length ≤ 2147483647 ∧ LenOk s) (K (tG ((effE l s).tc [])) [])⟩
theorem run_i_effectOf (l : List (FT.Ty .inst)) (s : State) (hpre : l.length ≤ 2147483647 ∧ LenOk s) : runK [c_i_Fetch, c_i_trapped, c_i_writeCode, c_i_Work, c_i_Read] (0) [] pf_i_effectOf [tL false .inst l, tG (s.tc false [])] fun r o => r = tG ((effE l s).tc []) ∧ o = [] := by
  obtain ⟨l1, l2, l3, l4⟩ := hpre
  have l5 : LMem s.mem 2147483647 := ⟨by omega, by omega⟩
  conv => whnf
  repeat' (first | ((first | refine sel_i (fun h => ?_) (fun h => ?_) | refine chk_c ?_ ?_) <;> conv => whnf) | refine And.intro ?_ rfl | (refine And.intro ?_ ?_ <;> conv => whnf))
  all_goals (try simp only [etaKey, etaWord, etaInst, etaEff, etaMemory, bne_iff_ne, ne_eq, bne_eq_false_iff_eq, beq_iff_eq, beq_eq_false_iff_ne, Bool.not_eq_true', Bool.not_eq_false', decide_eq_true_eq, decide_eq_false_iff_not] at *)
  all_goals first
    | (refine ⟨?_⟩; first | assumption | omega | decide)
    | contradiction
    | (refine ⟨?_⟩; have := fetchI_in (by assumption); omega)
    | (unfold effE memE; simp only [*, ne_eq, not_true_eq_false, not_false_eq_true, if_true, if_false, Int.reduceEq]; rfl)
    | trace_state
theorem ok_i_effectOf : FunOk Tryz.prog c_i_effectOf := funOk (eK ok_i_Fetch (eK ok_i_trapped (eK ok_i_writeCode (eK ok_i_Work (eK ok_i_Read eN))))) mixd Tryz.func222 (pf := pf_i_effectOf) (by kernel_rfl) fun ts K h => by
  obtain ⟨t0, t1, rfl, q0⟩ := as2_out h
  obtain ⟨l, rfl, q1⟩ := arC_out (rd_l .inst) q0
  obtain ⟨s, rfl, q2⟩ := arG_out rd_state q1
  obtain ⟨hpre, hk⟩ := chk_o q2
  exact ⟨_, _, hk, nb 2 Tryz.f222 (by kernel_rfl), _, run_i_effectOf l s hpre⟩

def pf_s_l9Apply : PF := ⟨[.c 4 true 10], .r [.box 2 0, .box 3 1, .alloc 4 zcS] (.seq (.r [.f 5 3 1, .l 6 1 5, .c 7 53 [6, (.i 0), (.i 7)]] (.cond 7 (.reg [.f 8 2 0, .l 9 1 8, .f 10 3 1, .l 11 1 10, .f 12 3 2, .L 13 6 12, .ia 14 .word 9 11, .o 6 14 13]) .skip)) (.seq (.r [.f 15 3 14, .l 16 1 15, .c 17 53 [16, (.i 0), (.i 23)]] (.cond 17 (.reg [.f 18 2 7, .f 19 18 0, .l 20 1 19, .f 21 3 14, .l 22 1 21, .f 23 3 15, .L 24 6 23, .ia 25 .word 20 22, .o 6 25 24]) .skip)) (.seq (.r [.f 26 3 21, .l 27 1 26, .c 28 53 [27, (.i 0), (.i 23)]] (.cond 28 (.reg [.f 29 2 7, .f 30 29 1, .l 31 1 30, .f 32 3 21, .l 33 1 32, .ia 34 .bool 31 33, .s (.store 1 34 .T)]) .skip)) (.r [.f 35 3 8, .L 36 6 35, .f 37 2 1, .o 6 37 36] (.r [.L 38 10 2, .o 10 4 38] .ret)))))⟩
def c_s_l9Apply : Fun := ⟨97, [true, false], fun ts K => as2 ts fun t0 t1 => arG pStateO t0 fun s => arG pEffT t1 fun e => chk (LenOk s) (K (tG ((putE s e).tc true [])) ([.v (.g [.unk, .int .i64 s.pc.n, .bool s.pc.is, .int .i64 s.pc.key.base, .int .i64 s.pc.key.top, .int .i64 s.pc.key.perms, .int .i64 s.pc.key.sealed, .unk, .unk, .int .i64 s.trap])]))⟩
theorem run_s_l9Apply (s : State) (e : Eff) (hpre : LenOk s) : runK [c_s_l1In] (0) [true, false] pf_s_l9Apply [tG (s.tc true []), tG (e.tc [])] fun r o => r = tG ((putE s e).tc true []) ∧ o = [.v (.g [.unk, .int .i64 s.pc.n, .bool s.pc.is, .int .i64 s.pc.key.base, .int .i64 s.pc.key.top, .int .i64 s.pc.key.perms, .int .i64 s.pc.key.sealed, .unk, .unk, .int .i64 s.trap])] := by
  obtain ⟨l2, l3, l4⟩ := hpre
  conv => whnf
  repeat' (first | ((first | refine sel_i (fun h => ?_) (fun h => ?_) | refine chk_c ?_ ?_) <;> conv => whnf) | refine And.intro ?_ rfl | (refine And.intro ?_ ?_ <;> conv => whnf))
  all_goals (try simp only [etaKey, etaWord, etaInst, etaEff, etaMemory, bne_iff_ne, ne_eq, bne_eq_false_iff_eq, beq_iff_eq, beq_eq_false_iff_ne, Bool.not_eq_true', Bool.not_eq_false', decide_eq_true_eq, decide_eq_false_iff_not] at *)
  all_goals first
    | (refine ⟨?_⟩; simp only [inR_t, inR_f] at *; omega)
    | (unfold putE; simp only [*, if_true, if_false, Bool.false_eq_true]; first | done | rfl)
    | trace_state
theorem ok_s_l9Apply : FunOk Tryz.prog c_s_l9Apply := funOk (eK ok_s_l1In eN) mixd Tryz.func97 (pf := pf_s_l9Apply) (by kernel_rfl) fun ts K h => by
  obtain ⟨t0, t1, rfl, q0⟩ := as2_out h
  obtain ⟨s, rfl, q1⟩ := arG_out rd_stateO q0
  obtain ⟨e, rfl, q2⟩ := arG_out rd_eff q1
  obtain ⟨hpre, hk⟩ := chk_o q2
  exact ⟨_, _, hk, nb 2 Tryz.f97 (by kernel_rfl), _, run_s_l9Apply s e hpre⟩

def pf_i_State_put : PF := ⟨[], .r [.box 3 1] (.seq (.r [.f 4 3 1, .l 5 1 4, .c 6 112 [5, (.i 0), (.i 7)]] (.cond 6 (.rgd [] [.m 7 0, .nchk 8 7, .f 9 8 0, .l 10 1 9, .f 11 3 1, .l 12 1 11, .f 13 3 2, .L 14 6 13, .ia 15 .word 10 12, .o 6 15 14] (.ts [0, 1, 2, 3, 4, 5, 6, 7, 8] (.one 9 true .d))) .skip)) (.seq (.r [.f 16 3 14, .l 17 1 16, .c 18 112 [17, (.i 0), (.i 23)]] (.cond 18 (.rgd [] [.m 19 0, .nchk 20 19, .f 21 20 7, .f 22 21 0, .l 23 1 22, .f 24 3 14, .l 25 1 24, .f 26 3 15, .L 27 6 26, .ia 28 .word 23 25, .o 6 28 27] (.ts [0, 1, 2, 3, 4, 5, 6, 7, 8, 9] (.one 10 true .d))) .skip)) (.seq (.r [.f 29 3 21, .l 30 1 29, .c 31 112 [30, (.i 0), (.i 23)]] (.cond 31 (.rgd [] [.m 32 0, .nchk 33 32, .f 34 33 7, .f 35 34 1, .l 36 1 35, .f 37 3 21, .l 38 1 37, .ia 39 .bool 36 38, .s (.store 1 39 .T)] (.ts [0, 1, 2, 3, 4, 5, 6, 7] (.one 8 true .d))) .skip)) (.reg [.m 40 0, .f 41 3 8, .L 42 6 41, .nchk 43 40, .f 44 43 1, .o 6 44 42]))))⟩
def c_i_State_put : Fun := ⟨170, [true, false], fun ts K => as2 ts fun t0 t1 => arQ pStateO t0 fun s => arG pEffT t1 fun e => chk (LenOk s) (K (.tup []) ([.v (.ptr true 0 ((putE s e).tc true []))]))⟩
theorem run_i_State_put (s : State) (e : Eff) (hpre : LenOk s) : runK [c_i_in] (0) [true, false] pf_i_State_put [.v (.ptr true 0 (s.tc true [])), tG (e.tc [])] fun r o => r = .tup [] ∧ o = [.v (.ptr true 0 ((putE s e).tc true []))] := by
  obtain ⟨l2, l3, l4⟩ := hpre
  conv => whnf
  repeat' (first | ((first | refine sel_i (fun h => ?_) (fun h => ?_) | refine chk_c ?_ ?_) <;> conv => whnf) | refine And.intro ?_ rfl | (refine And.intro ?_ ?_ <;> conv => whnf))
  all_goals (try simp only [etaKey, etaWord, etaInst, etaEff, etaMemory, bne_iff_ne, ne_eq, bne_eq_false_iff_eq, beq_iff_eq, beq_eq_false_iff_ne, Bool.not_eq_true', Bool.not_eq_false', decide_eq_true_eq, decide_eq_false_iff_not] at *)
  all_goals first
    | (refine ⟨?_⟩; simp only [inR_t, inR_f] at *; omega)
    | (unfold putE; simp only [*, if_true, if_false, Bool.false_eq_true]; first | done | rfl)
    | trace_state
theorem ok_i_State_put : FunOk Tryz.prog c_i_State_put := funOk (eK ok_i_in eN) mixd Tryz.func170 (pf := pf_i_State_put) (by kernel_rfl) fun ts K h => by
  obtain ⟨t0, t1, rfl, q0⟩ := as2_out h
  obtain ⟨s, rfl, q1⟩ := arQ_out rd_stateO q0
  obtain ⟨e, rfl, q2⟩ := arG_out rd_eff q1
  obtain ⟨hpre, hk⟩ := chk_o q2
  exact ⟨_, _, hk, nb 2 Tryz.f170 (by kernel_rfl), _, run_i_State_put s e hpre⟩

theorem stepS_no {l : List Inst} {s : State} (h : stateOk s = false) : stepS l s = zState := if_pos h
theorem stepS_trap {l : List Inst} {s : State} (h : stateOk s = true) (h2 : ¬ s.trap = 0) : stepS l s = s := by
  unfold stepS; rw [if_neg (by rw [h]; decide), if_pos h2]
theorem stepS_e {l : List Inst} {s : State} (h : stateOk s = true) (h2 : s.trap = 0) (h3 : ¬ (effE l s).trap = 0) : stepS l s = ⟨s.regs, s.pc, s.mem, (effE l s).trap⟩ := by
  unfold stepS; rw [if_neg (by rw [h]; decide), if_neg (by simpa using h2), if_pos h3]
theorem stepS_0 {l : List Inst} {s : State} (h : stateOk s = true) (h2 : s.trap = 0) (h3 : (effE l s).trap = 0) : stepS l s = putE s (effE l s) := by
  unfold stepS; rw [if_neg (by rw [h]; decide), if_neg (by simpa using h2), if_neg (by simpa using h3)]
theorem trapE_trap (c : Int) (pc : Word) : (trapE c pc).trap = c := rfl

def pf_i_Step : PF := ⟨[.c 4 true 10], .r [.box 3 1, .alloc 4 zcS] (.seq (.r [.L 7 10 3, .c 8 61 [7], .bnot 9 8] (.cond 9 (.r [.build 10 zcS [], .o 10 4 10] .ret) .skip)) (.r [.L 11 10 3, .c 12 108 [11], .alloc 5 zcS, .o 10 5 12] (.seq (.r [.f 13 3 9, .l 14 1 13, .bin 15 .neq 14 (.i 0)] (.cond 15 (.r [.L 16 10 5, .o 10 4 16] .ret) .skip)) (.r [.m 17 0, .L 18 10 3, .c 19 222 [17, 18], .alloc 6 zcF, .o 22 6 19] (.seq (.r [.f 20 6 0, .l 21 1 20, .bin 22 .neq 21 (.i 0)] (.cond 22 (.r [.f 23 6 0, .l 24 1 23, .f 25 5 9, .o 1 25 24] (.r [.L 26 10 5, .o 10 4 26] .ret)) .skip)) (.r [.L 27 22 6, .c 28 170 [5, 27]] (.r [.L 29 10 5, .o 10 4 29] .ret)))))))⟩
def c_i_Step : Fun := ⟨178, [], fun ts K => as2 ts fun t0 t1 => arC (pL .inst) t0 fun l => arG pStateT t1 fun s => chk (l.length ≤ 2147483647 ∧ LState s 2147483647) (K (tG ((stepS l s).tc true [])) [])⟩
theorem run_i_Step (l : List (FT.Ty .inst)) (s : State) (hpre : l.length ≤ 2147483647 ∧ LState s 2147483647) : runK [c_i_StateOk, c_i_cloneState, c_i_State_put, c_i_effectOf] (0) [] pf_i_Step [tL false .inst l, tG (s.tc false [])] fun r o => r = tG ((stepS l s).tc true []) ∧ o = [] := by
  obtain ⟨l1, l2⟩ := hpre
  conv => whnf
  repeat' (first | ((first | refine sel_i (fun h => ?_) (fun h => ?_) | refine chk_c ?_ ?_) <;> conv => whnf) | refine And.intro ?_ rfl | (refine And.intro ?_ ?_ <;> conv => whnf))
  all_goals (try simp only [etaKey, etaWord, etaInst, etaEff, etaMemory, etaState, bne_iff_ne, ne_eq, bne_eq_false_iff_eq, beq_iff_eq, beq_eq_false_iff_ne, Bool.not_eq_true', Bool.not_eq_false', decide_eq_true_eq, decide_eq_false_iff_not] at *)
  all_goals first
    | (refine ⟨?_⟩; assumption)
    | (refine ⟨?_⟩; exact stateOk_len (by assumption))
    | (refine ⟨?_⟩; exact ⟨l1, stateOk_len (by assumption)⟩)
    | (rw [stepS_no (by assumption)]; rfl)
    | (rw [stepS_trap (by assumption) (by assumption)]; rfl)
    | (rw [stepS_e (by assumption) (by assumption) (by assumption)]; rfl)
    | (rw [stepS_0 (by assumption) (by assumption) (by assumption)]; rfl)
    | trace_state
theorem ok_i_Step : FunOk Tryz.prog c_i_Step := funOk (eK ok_i_StateOk (eK ok_i_cloneState (eK ok_i_State_put (eK ok_i_effectOf eN)))) mixd Tryz.func178 (pf := pf_i_Step) (by kernel_rfl) fun ts K h => by
  obtain ⟨t0, t1, rfl, q0⟩ := as2_out h
  obtain ⟨l, rfl, q1⟩ := arC_out (rd_l .inst) q0
  obtain ⟨s, rfl, q2⟩ := arG_out rd_state q1
  obtain ⟨hpre, hk⟩ := chk_o q2
  exact ⟨_, _, hk, nb 2 Tryz.f178 (by kernel_rfl), _, run_i_Step l s hpre⟩

def pf_s_Step : PF := ⟨[.c 4 true 10], .r [.box 3 1, .alloc 4 zcS] (.seq (.r [.L 13 10 3, .c 14 41 [13], .bnot 15 14] (.cond 15 (.r [.build 16 zcS [], .o 10 4 16] .ret) .skip)) (.r [.L 17 10 3, .c 18 87 [17], .alloc 5 zcS, .o 10 5 18] (.seq (.r [.f 19 3 9, .l 20 1 19, .bin 21 .neq 20 (.i 0)] (.cond 21 (.r [.L 22 10 5, .o 10 4 22] .ret) .skip)) (.r [.m 24 0, .f 25 3 1, .L 26 6 25, .c 27 99 [24, 26], .m 23 27, .ext 28 23 0, .ext 29 23 1, .alloc 6 zcI, .o 5 6 28, .m 7 29] (.seq (.r [.m 30 7, .bin 31 .eql 30 (.i 0)] (.cond 31 (.seq (.rgd [] [.f 32 3 0, .l 33 1 32, .f 34 6 2, .l 35 1 34, .ia 36 .word 33 35, .L 37 6 36, .f 38 3 0, .l 39 1 38, .f 40 6 3, .l 41 1 40, .ia 42 .word 39 41, .L 43 6 42, .alloc 8 zcW, .alloc 9 zcW, .o 6 8 37, .o 6 9 43] (.ts [0, 1, 2, 3, 4, 5, 6, 7, 8, 9, 10, 11] (.alt 12 false (.one 13 false (.one 14 false (.one 15 true (.done (some [3, 4, 5, 6, 8, 9]))))) (.alt 13 false (.one 12 false (.one 14 false (.one 15 true (.done (some [3, 4, 5, 6, 8, 9]))))) .nil)))) (.r [.f 45 3 7, .L 46 2 45, .L 47 5 6, .L 48 6 8, .L 49 6 9, .c 50 191 [46, 47, 48, 49], .m 44 50, .ext 51 44 0, .ext 52 44 1, .alloc 10 zcW, .o 6 10 51, .m 11 52] (.r [.L 53 5 6, .f 54 3 1, .L 55 6 54, .L 56 6 8, .L 57 6 9, .L 58 6 10, .c 59 149 [53, 55, 56, 57, 58], .alloc 12 zcF, .o 22 12 59] (.r [.m 60 11, .m 7 60] (.seq (.r [.m 61 7, .bin 62 .eql 61 (.i 0)] (.cond 62 (.reg [.f 63 12 0, .l 64 1 63, .m 7 64]) .skip)) (.r [.m 65 7, .bin 66 .eql 65 (.i 0)] (.cond 66 (.r [.L 67 10 5, .L 68 22 12, .c 69 97 [67, 68], .o 10 4 69] .ret) .skip))))))) .skip)) (.r [.m 70 7, .f 71 5 9, .o 1 71 70] (.r [.L 72 10 5, .o 10 4 72] .ret)))))))⟩
def c_s_Step : Fun := ⟨144, [], fun ts K => as2 ts fun t0 t1 => arC (pL .inst) t0 fun l => arG pStateT t1 fun s => chk (l.length ≤ 2147483647 ∧ LState s 2147483647) (K (tG ((stepS l s).tc true [])) [])⟩
theorem run_s_Step (l : List (FT.Ty .inst)) (s : State) (hpre : l.length ≤ 2147483647 ∧ LState s 2147483647) : runK [c_s_StateOk, c_s_l9Copy, c_s_l9Apply, c_s_Fetch, c_s_Work, c_s_l9Mem] (0) [] pf_s_Step [tL false .inst l, tG (s.tc false [])] fun r o => r = tG ((stepS l s).tc true []) ∧ o = [] := by
  obtain ⟨l1, l2⟩ := hpre
  conv => whnf
  repeat' (first | ((first | refine sel_i (fun h => ?_) (fun h => ?_) | refine chk_c ?_ ?_) <;> conv => whnf) | refine And.intro ?_ rfl | (refine And.intro ?_ ?_ <;> conv => whnf))
  all_goals (try simp only [etaKey, etaWord, etaInst, etaEff, etaMemory, etaState, bne_iff_ne, ne_eq, bne_eq_false_iff_eq, beq_iff_eq, beq_eq_false_iff_ne, Bool.not_eq_true', Bool.not_eq_false', decide_eq_true_eq, decide_eq_false_iff_not] at *)
  all_goals first
    | contradiction
    | (refine ⟨?_⟩; assumption)
    | (refine ⟨?_⟩; exact l2.2)
    | (refine ⟨?_⟩; exact stateOk_len (by assumption))
    | (have hl := stateOk_len (by assumption); have hx := fetchI_in (by assumption); have l3 := hl.1; refine ⟨?_⟩; omega)
    | (rw [stepS_no (by assumption)]; rfl)
    | (rw [stepS_trap (by assumption) (by assumption)]; rfl)
    | (rw [stepS_e (by assumption) (by assumption) (by unfold effE; simp only [*, ne_eq, not_true_eq_false, not_false_eq_true, trapE_trap, if_true, if_false])]; unfold effE; simp only [*, ne_eq, not_true_eq_false, not_false_eq_true, trapE_trap, if_true, if_false]; rfl)
    | (rw [stepS_0 (by assumption) (by assumption) (by unfold effE; simp only [*, ne_eq, not_true_eq_false, not_false_eq_true, trapE_trap, if_true, if_false])]; unfold effE; simp only [*, ne_eq, not_true_eq_false, not_false_eq_true, trapE_trap, if_true, if_false]; rfl)
    | trace_state
theorem ok_s_Step : FunOk Tryz.prog c_s_Step := funOk (eK ok_s_StateOk (eK ok_s_l9Copy (eK ok_s_l9Apply (eK ok_s_Fetch (eK ok_s_Work (eK ok_s_l9Mem eN)))))) mixd Tryz.func144 (pf := pf_s_Step) (by kernel_rfl) fun ts K h => by
  obtain ⟨t0, t1, rfl, q0⟩ := as2_out h
  obtain ⟨l, rfl, q1⟩ := arC_out (rd_l .inst) q0
  obtain ⟨s, rfl, q2⟩ := arG_out rd_state q1
  obtain ⟨hpre, hk⟩ := chk_o q2
  exact ⟨_, _, hk, nb 2 Tryz.f144 (by kernel_rfl), _, run_s_Step l s hpre⟩

def pf_w_toIns : PF := ⟨[.c 2 true 5], .r [.box 1 0, .alloc 2 zcI] (.r [.alloc 3 zcI] (.r [.f 4 1 0, .l 5 1 4, .f 6 3 0, .o 1 6 5] (.r [.f 7 1 1, .l 8 1 7, .f 9 3 1, .o 1 9 8] (.r [.f 10 1 2, .l 11 1 10, .f 12 3 2, .o 1 12 11] (.r [.f 13 1 3, .l 14 1 13, .f 15 3 3, .o 1 15 14] (.r [.f 16 1 4, .l 17 1 16, .f 18 3 4, .o 1 18 17] (.r [.L 19 5 3, .o 5 2 19] .ret)))))))⟩
def c_w_toIns : Fun := ⟨54, [], fun ts K => as1 ts fun t0 => arG pInstT t0 fun a => K (tG (a.tc [])) []⟩
theorem run_w_toIns (a : Inst) : runK [] (0) [] pf_w_toIns [tG (a.tc [])] fun r o => r = tG (a.tc []) ∧ o = [] := by
  conv => whnf
  repeat' (first
    | exact rfl
    | exact trivial
    | (refine sel_i (fun h => ?_) (fun h => ?_) <;> conv => whnf)
    | (refine chk_c ?_ ?_ <;> conv => whnf)
    | (refine And.intro ?_ ?_ <;> conv => whnf))
theorem ok_w_toIns : FunOk Tryz.prog c_w_toIns := funOk (eN) mixd Tryz.func54 (pf := pf_w_toIns) (by kernel_rfl) fun ts K h => by
  obtain ⟨t0, rfl, q0⟩ := as1_out h
  obtain ⟨a, rfl, q1⟩ := arG_out rd_inst q0
  exact ⟨_, _, q1, nb 1 Tryz.f54 (by kernel_rfl), _, run_w_toIns a⟩

def pf_w_szInsS : PF := ⟨[.t 4], .r [.mv 4 (.i 0)] (.r [.m 5 1, .m 6 0, .len 7 false 6, .bin 8 .sub 5 7, .m 1 8] (.seq (.r [.m 9 1, .bin 10 .lss 9 (.i 0)] (.cond 10 (.r [.mv 4 (.i (-1))] .ret) .skip)) (.r [.m 11 1, .m 4 11] .ret)))⟩
def c_w_szInsS : Fun := ⟨11, [], fun ts K => as2 ts fun t0 t1 => arC (pL .inst) t0 fun a => arC (pI .i64) t1 fun k => chk (a.length ≤ 9223372036854775807 ∧ 0 ≤ k ∧ k ≤ 1048576) (K (tN (szr k a.length)) [])⟩
theorem run_w_szInsS (a : List (FT.Ty .inst)) (k : Int) (hpre : a.length ≤ 9223372036854775807 ∧ 0 ≤ k ∧ k ≤ 1048576) : runK [] (0) [] pf_w_szInsS [tL false .inst a, tI .i64 k] fun r o => r = tN (szr k a.length) ∧ o = [] := by
  conv => whnf
  rw [wrap_id (by omega) (by omega)]
  refine sel_i (fun h => ?_) (fun h => ?_) <;> conv => whnf
  · refine ⟨?_, rfl⟩; rw [szr_t (by simpa using h)]
  · refine ⟨?_, rfl⟩; rw [szr_f (by simpa using h)]
theorem ok_w_szInsS : FunOk Tryz.prog c_w_szInsS := funOk (eN) mixd Tryz.func11 (pf := pf_w_szInsS) (by kernel_rfl) fun ts K h => by
  obtain ⟨t0, t1, rfl, q0⟩ := as2_out h
  obtain ⟨a, rfl, q1⟩ := arC_out (rd_l .inst) q0
  obtain ⟨k, rfl, q2⟩ := arC_out (rd_int .i64) q1
  obtain ⟨hpre, hk⟩ := chk_o q2
  exact ⟨_, _, hk, nb 2 Tryz.f11 (by kernel_rfl), _, run_w_szInsS a k hpre⟩

def lb_w_toInsS_0 : PC := .seq (.r [.m 8 4, .m 9 0, .len 10 false 9, .bin 11 .lss 8 10] (.cond 11 .skip (.exit 0))) (.seq (.blk 1 (.reg [.m 14 3, .m 15 4, .m 16 0, .m 17 4, .ia 18 .inst 16 17, .L 19 5 18, .c 20 54 [19], .ia 21 .inst 14 15, .o 5 21 20])) (.reg [.m 12 4, .bin 13 .add 12 (.i 1), .m 4 13]))
def pf_w_toInsS : PF := ⟨[.t 2], .r [.mv 2 (.k (.v (.c (.nils .inst))))] (.r [.m 5 0, .len 6 false 5, .s (.mkS 7 .inst 6), .m 3 7] (.seq (.r [.mv 4 (.i 0)] (.blk 0 (.loop [0, 3, 4] lb_w_toInsS_0))) (.r [.m 22 3, .m 2 22] .ret)))⟩
def c_w_toInsS : Fun := ⟨22, [], fun ts K => as1 ts fun t0 => arC (pL .inst) t0 fun a => chk (a.length ≤ 2147483647) (K (tL true .inst a) [])⟩
theorem run_w_toInsS (a : List (FT.Ty .inst)) (hpre : a.length ≤ 2147483647) : runK [c_w_toIns] (a.length + 1) [] pf_w_toInsS [tL false .inst a] fun r o => r = tL true .inst a ∧ o = [] := by
  conv => whnf
  refine chk_i ⟨by omega, by omega⟩ ?_
  conv => whnf
  refine loop (α := Nat × List (FT.Ty .inst)) (fun p => ⟨[(0, .v (.c (.sl false .inst 0))), (3, .v (.c (.sl true .inst 1))), (4, .v (.c (.int .i64 (p.1 : Int))))], [(1, some (.flat true .inst none p.2)), (0, some (.flat false .inst none a))], nums.tail.tail, [], false, []⟩)
      (fun p => p.1 ≤ a.length ∧ p.2 = a.take p.1 ++ (List.replicate a.length (FT.zero .inst)).drop p.1) (fun p => a.length - p.1) (fun p R hI hR => ?_) (0, List.replicate a.length (FT.zero .inst)) _ ⟨by simp, by simp⟩ (by simp)
  obtain ⟨i, xs⟩ := p
  obtain ⟨hi, hx⟩ := hI
  dsimp only at hi hx
  have hlen : xs.length = a.length := by rw [hx]; simp; omega
  dsimp only
  conv => whnf
  refine sel_i (fun h2 => ?_) (fun h2 => ?_)
  · have hlt : i < a.length := by simp at h2; omega
    have hge : a[i]? = some (a.getD i (FT.zero .inst)) := by simp [List.getD_eq_getElem?_getD, hlt]
    conv => whnf
    repeat' (refine chk_c ?_ ?_ <;> conv => whnf)
    all_goals first
      | (refine ⟨?_⟩; omega)
      | (refine ⟨?_⟩; simp; done)
      | (refine ⟨?_⟩; simp; omega)
      | skip
    simp (disch := omega) only [wrap_id, Int.toNat_natCast]
    exact hR (i + 1, xs.set i (a.getD i (FT.zero .inst))) ⟨by omega, by rw [hx]; exact set_mid (by simp) (by simpa using hlt) hge⟩ (by simp; omega)
  · have hge : i = a.length := by simp at h2; omega
    subst hge
    conv => whnf
    refine ⟨?_, rfl⟩
    rw [hx, List.take_of_length_le (by omega), List.drop_eq_nil_of_le (by simp), List.append_nil]
theorem ok_w_toInsS : FunOk Tryz.prog c_w_toInsS := funOk (eK ok_w_toIns eN) mixd Tryz.func22 (pf := pf_w_toInsS) (by kernel_rfl) fun ts K h => by
  obtain ⟨t0, rfl, q0⟩ := as1_out h
  obtain ⟨a, rfl, q1⟩ := arC_out (rd_l .inst) q0
  obtain ⟨hpre, hk⟩ := chk_o q1
  exact ⟨_, _, hk, nb 1 Tryz.f22 (by kernel_rfl), _, run_w_toInsS a hpre⟩

def pf_w_szIntS : PF := ⟨[.t 4], .r [.mv 4 (.i 0)] (.r [.m 5 1, .m 6 0, .len 7 false 6, .bin 8 .sub 5 7, .m 1 8] (.seq (.r [.m 9 1, .bin 10 .lss 9 (.i 0)] (.cond 10 (.r [.mv 4 (.i (-1))] .ret) .skip)) (.r [.m 11 1, .m 4 11] .ret)))⟩
def c_w_szIntS : Fun := ⟨13, [], fun ts K => as2 ts fun t0 t1 => arC (pL (.int .i64)) t0 fun a => arC (pI .i64) t1 fun k => chk (a.length ≤ 9223372036854775807 ∧ 0 ≤ k ∧ k ≤ 1048576) (K (tN (szr k a.length)) [])⟩
theorem run_w_szIntS (a : List (FT.Ty (.int .i64))) (k : Int) (hpre : a.length ≤ 9223372036854775807 ∧ 0 ≤ k ∧ k ≤ 1048576) : runK [] (0) [] pf_w_szIntS [tL false (.int .i64) a, tI .i64 k] fun r o => r = tN (szr k a.length) ∧ o = [] := by
  conv => whnf
  rw [wrap_id (by omega) (by omega)]
  refine sel_i (fun h => ?_) (fun h => ?_) <;> conv => whnf
  · refine ⟨?_, rfl⟩; rw [szr_t (by simpa using h)]
  · refine ⟨?_, rfl⟩; rw [szr_f (by simpa using h)]
theorem ok_w_szIntS : FunOk Tryz.prog c_w_szIntS := funOk (eN) mixd Tryz.func13 (pf := pf_w_szIntS) (by kernel_rfl) fun ts K h => by
  obtain ⟨t0, t1, rfl, q0⟩ := as2_out h
  obtain ⟨a, rfl, q1⟩ := arC_out (rd_l (.int .i64)) q0
  obtain ⟨k, rfl, q2⟩ := arC_out (rd_int .i64) q1
  obtain ⟨hpre, hk⟩ := chk_o q2
  exact ⟨_, _, hk, nb 2 Tryz.f13 (by kernel_rfl), _, run_w_szIntS a k hpre⟩

def lb_w_toIntS_0 : PC := .seq (.r [.m 8 4, .m 9 0, .len 10 false 9, .bin 11 .lss 8 10] (.cond 11 .skip (.exit 0))) (.seq (.blk 1 (.reg [.m 14 3, .m 15 4, .m 16 0, .m 17 4, .ia 18 (.int .i64) 16 17, .l 19 1 18, .ia 20 (.int .i64) 14 15, .o 1 20 19])) (.reg [.m 12 4, .bin 13 .add 12 (.i 1), .m 4 13]))
def pf_w_toIntS : PF := ⟨[.t 2], .r [.mv 2 (.k (.v (.c (.nils (.int .i64)))))] (.r [.m 5 0, .len 6 false 5, .s (.mkS 7 (.int .i64) 6), .m 3 7] (.seq (.r [.mv 4 (.i 0)] (.blk 0 (.loop [0, 3, 4] lb_w_toIntS_0))) (.r [.m 21 3, .m 2 21] .ret)))⟩
def c_w_toIntS : Fun := ⟨24, [], fun ts K => as1 ts fun t0 => arC (pL (.int .i64)) t0 fun a => chk (a.length ≤ 2147483647) (K (tL true (.int .i64) a) [])⟩
theorem run_w_toIntS (a : List (FT.Ty (.int .i64))) (hpre : a.length ≤ 2147483647) : runK [] (a.length + 1) [] pf_w_toIntS [tL false (.int .i64) a] fun r o => r = tL true (.int .i64) a ∧ o = [] := by
  conv => whnf
  refine chk_i ⟨by omega, by omega⟩ ?_
  conv => whnf
  refine loop (α := Nat × List (FT.Ty (.int .i64))) (fun p => ⟨[(0, .v (.c (.sl false (.int .i64) 0))), (3, .v (.c (.sl true (.int .i64) 1))), (4, .v (.c (.int .i64 (p.1 : Int))))], [(1, some (.flat true (.int .i64) none p.2)), (0, some (.flat false (.int .i64) none a))], nums.tail.tail, [], false, []⟩)
      (fun p => p.1 ≤ a.length ∧ p.2 = a.take p.1 ++ (List.replicate a.length (FT.zero (.int .i64))).drop p.1) (fun p => a.length - p.1) (fun p R hI hR => ?_) (0, List.replicate a.length (FT.zero (.int .i64))) _ ⟨by simp, by simp⟩ (by simp)
  obtain ⟨i, xs⟩ := p
  obtain ⟨hi, hx⟩ := hI
  dsimp only at hi hx
  have hlen : xs.length = a.length := by rw [hx]; simp; omega
  dsimp only
  conv => whnf
  refine sel_i (fun h2 => ?_) (fun h2 => ?_)
  · have hlt : i < a.length := by simp at h2; omega
    have hge : a[i]? = some (a.getD i (FT.zero (.int .i64))) := by simp [List.getD_eq_getElem?_getD, hlt]
    conv => whnf
    repeat' (refine chk_c ?_ ?_ <;> conv => whnf)
    all_goals first
      | (refine ⟨?_⟩; omega)
      | (refine ⟨?_⟩; simp; done)
      | (refine ⟨?_⟩; simp; omega)
      | skip
    simp (disch := omega) only [wrap_id, Int.toNat_natCast]
    exact hR (i + 1, xs.set i (a.getD i (FT.zero (.int .i64)))) ⟨by omega, by rw [hx]; exact set_mid (by simp) (by simpa using hlt) hge⟩ (by simp; omega)
  · have hge : i = a.length := by simp at h2; omega
    subst hge
    conv => whnf
    refine ⟨?_, rfl⟩
    rw [hx, List.take_of_length_le (by omega), List.drop_eq_nil_of_le (by simp), List.append_nil]
theorem ok_w_toIntS : FunOk Tryz.prog c_w_toIntS := funOk (eN) mixd Tryz.func24 (pf := pf_w_toIntS) (by kernel_rfl) fun ts K h => by
  obtain ⟨t0, rfl, q0⟩ := as1_out h
  obtain ⟨a, rfl, q1⟩ := arC_out (rd_l (.int .i64)) q0
  obtain ⟨hpre, hk⟩ := chk_o q1
  exact ⟨_, _, hk, nb 1 Tryz.f24 (by kernel_rfl), _, run_w_toIntS a hpre⟩

def szState (s : State) (k : Int) : Int := szB (szr k s.regs.length) fun k => szMem s.mem k
theorem szMem_ge (m : Mem) {k : Int} (h : 0 ≤ k) : -1 ≤ szMem m k := by
  unfold szMem szB; split
  · omega
  · exact szr_ge
theorem szState_n {s : State} {k : Int} (h0 : k ≤ 1048576) (h : 0 ≤ szState s k) : LState s 1048576 := by
  obtain ⟨h1, h2, _⟩ := szB_pos h
  have h4 := szr_n h1
  have h5 := szMem_n (by omega) h2
  exact ⟨by omega, h5.1⟩
theorem LState.mono {t : State} {n m : Nat} (h : LState t n) (k : n ≤ m) : LState t m := ⟨Nat.le_trans h.1 k, Nat.le_trans h.2.1 k, Nat.le_trans h.2.2 k⟩
theorem lState_of {t : State} (h : WState t) : LState t 9223372036854775807 := ⟨h.1.2, h.2.2.1.1.2, h.2.2.1.2.2⟩
def pf_w_szState : PF := ⟨[.t 4], .r [.box 2 0, .mv 4 (.i 0)] (.r [.f 5 2 0, .l 6 1 5, .m 7 1, .c 8 85 [6, 7], .m 1 8] (.seq (.r [.m 9 1, .bin 10 .lss 9 (.i 0)] (.cond 10 (.r [.mv 4 (.i (-1))] .ret) .skip)) (.r [.f 11 2 7, .L 12 2 11, .m 13 1, .c 14 86 [12, 13], .m 1 14] (.seq (.r [.m 15 1, .bin 16 .lss 15 (.i 0)] (.cond 16 (.r [.mv 4 (.i (-1))] .ret) .skip)) (.r [.m 17 1, .m 4 17] .ret)))))⟩
def c_w_szState : Fun := ⟨37, [], fun ts K => as2 ts fun t0 t1 => arG pStateT t0 fun m => arC (pI .i64) t1 fun k => chk (LState m 9223372036854775807 ∧ 0 ≤ k ∧ k ≤ 1048576) (K (tN (szState m k)) [])⟩
theorem run_w_szState (m : State) (k : Int) (hpre : LState m 9223372036854775807 ∧ 0 ≤ k ∧ k ≤ 1048576) : runK [c_w_szWordS, c_w_szMemory] (0) [] pf_w_szState [tG (m.tc false []), tI .i64 k] fun r o => r = tN (szState m k) ∧ o = [] := by
  obtain ⟨⟨l1, l2⟩, hk, hk2⟩ := hpre
  have h0 := szr_le (n := m.regs.length) hk
  conv => whnf
  refine chk_i ⟨l1, hk, hk2⟩ ?_
  conv => whnf
  refine sel_i (fun h => ?_) (fun h => ?_)
  · conv => whnf
    refine ⟨?_, rfl⟩; simp at h; simp [szState, szB, h]
  · have h : 0 ≤ szr k m.regs.length := by simpa using h
    conv => whnf
    refine chk_i ⟨l2, h, show szr k m.regs.length ≤ _ by omega⟩ ?_
    conv => whnf
    repeat' (first | ((first | refine sel_i (fun h => ?_) (fun h => ?_) | refine chk_c ?_ ?_) <;> conv => whnf) | refine And.intro ?_ rfl | (refine And.intro ?_ ?_ <;> conv => whnf))
    · have h3 : szMem m.mem (szr k m.regs.length) < 0 := by simpa [etaMemory] using h
      have h4 := szMem_ge m.mem (k := szr k m.regs.length) (by assumption)
      have e : szState m k = szMem m.mem (szr k m.regs.length) := by unfold szState szB; rw [if_neg (by omega)]
      rw [e, show szMem m.mem (szr k m.regs.length) = -1 by omega]
    · have e : szState m k = szMem m.mem (szr k m.regs.length) := by unfold szState szB; rw [if_neg (by omega)]
      rw [e]
theorem ok_w_szState : FunOk Tryz.prog c_w_szState := funOk (eK ok_w_szWordS (eK ok_w_szMemory eN)) mixd Tryz.func37 (pf := pf_w_szState) (by kernel_rfl) fun ts K h => by
  obtain ⟨t0, t1, rfl, q0⟩ := as2_out h
  obtain ⟨m, rfl, q1⟩ := arG_out rd_state q0
  obtain ⟨k, rfl, q2⟩ := arC_out (rd_int .i64) q1
  obtain ⟨hpre, hk⟩ := chk_o q2
  exact ⟨_, _, hk, nb 2 Tryz.f37 (by kernel_rfl), _, run_w_szState m k hpre⟩

def pf_w_toState : PF := ⟨[.c 2 true 10], .r [.box 1 0, .alloc 2 zcS] (.r [.alloc 3 zcS] (.r [.f 4 1 0, .l 5 1 4, .c 6 104 [5], .f 7 3 0, .o 1 7 6] (.r [.f 8 1 1, .L 9 6 8, .c 10 57 [9], .f 11 3 1, .o 6 11 10] (.r [.f 12 1 7, .L 13 2 12, .c 14 105 [13], .f 15 3 7, .o 2 15 14] (.r [.f 16 1 9, .l 17 1 16, .f 18 3 9, .o 1 18 17] (.r [.L 19 10 3, .o 10 2 19] .ret))))))⟩
def c_w_toState : Fun := ⟨55, [], fun ts K => as1 ts fun t0 => arG pStateT t0 fun m => chk (LState m 2147483647) (K (tG (m.tc true [])) [])⟩
theorem run_w_toState (m : State) (hpre : LState m 2147483647) : runK [c_w_toWord, c_w_toWordS, c_w_toMemory] (0) [] pf_w_toState [tG (m.tc false [])] fun r o => r = tG (m.tc true []) ∧ o = [] := by
  obtain ⟨l1, l2, l3⟩ := hpre
  conv => whnf
  repeat' (first | (refine chk_c ?_ ?_ <;> conv => whnf) | (refine And.intro ?_ ?_ <;> conv => whnf))
  all_goals first
    | (refine ⟨?_⟩; omega)
    | (refine ⟨?_⟩; simp; done)
    | (refine ⟨?_⟩; simp [LMem, LTwo] at *; omega)
    | rfl
    | exact True.intro
    | exact ⟨rfl, rfl⟩
theorem ok_w_toState : FunOk Tryz.prog c_w_toState := funOk (eK ok_w_toWord (eK ok_w_toWordS (eK ok_w_toMemory eN))) mixd Tryz.func55 (pf := pf_w_toState) (by kernel_rfl) fun ts K h => by
  obtain ⟨t0, rfl, q0⟩ := as1_out h
  obtain ⟨m, rfl, q1⟩ := arG_out rd_state q0
  obtain ⟨hpre, hk⟩ := chk_o q1
  exact ⟨_, _, hk, nb 1 Tryz.f55 (by kernel_rfl), _, run_w_toState m hpre⟩


theorem putE_len {s : State} {e : Eff} {n : Nat} (h : LState s n) : LState (putE s e) n := by
  obtain ⟨h1, h2, h3⟩ := h
  unfold putE
  refine ⟨?_, ?_, ?_⟩
  · dsimp only; split
    · rw [List.length_set]; exact h1
    · exact h1
  · dsimp only; split
    · rw [List.length_set]; exact h2
    · exact h2
  · dsimp only; split
    · rw [List.length_set]; exact h3
    · exact h3
theorem stepS_len {l : List Inst} {s : State} {n : Nat} (h : LState s n) : LState (stepS l s) n := by
  unfold stepS
  split
  · exact ⟨Nat.zero_le _, Nat.zero_le _, Nat.zero_le _⟩
  · split
    · exact h
    · split
      · exact h
      · exact putE_len h








def stC (v : State) (i j k : Nat) (r : List Cell) : List Cell := .sl false .word i :: v.pc.flat (.sl false .word j :: .sl false .bool k :: .int .i64 v.trap :: r)
def zSC : List Cell := [.nils .word, .int .i64 0, .ff, .int .i64 0, .int .i64 0, .int .i64 0, .int .i64 0, .nils .word, .nils .bool, .int .i64 0]


/-! words that are right, and what they are under -/
theorem wrap_bv (n : Int) : BitVec.ofInt IntKind.i64.bits (IntKind.i64.wrap n) = BitVec.ofInt IntKind.i64.bits n := by
  apply BitVec.eq_of_toNat_eq
  simp only [BitVec.toNat_ofInt, IntKind.wrap_i64]
  show (_ % (18446744073709551616 : Int)).toNat = (n % (18446744073709551616 : Int)).toNat
  omega
theorem andI_bv (a b : Int) : BitVec.ofInt IntKind.i64.bits (andI a b) = BitVec.ofInt IntKind.i64.bits a &&& BitVec.ofInt IntKind.i64.bits b := by
  unfold andI
  rw [wrap_bv, BitVec.ofInt_natCast, BitVec.ofNat_toNat, BitVec.setWidth_eq]
theorem andI_comm (a b : Int) : andI a b = andI b a := by unfold andI; rw [BitVec.and_comm]
theorem andI_assoc (a b c : Int) : andI (andI a b) c = andI a (andI b c) := by
  have h1 : andI (andI a b) c = IntKind.i64.wrap ((BitVec.ofInt IntKind.i64.bits a &&& BitVec.ofInt IntKind.i64.bits b) &&& BitVec.ofInt IntKind.i64.bits c).toNat := by rw [← andI_bv]; rfl
  have h2 : andI a (andI b c) = IntKind.i64.wrap (BitVec.ofInt IntKind.i64.bits a &&& (BitVec.ofInt IntKind.i64.bits b &&& BitVec.ofInt IntKind.i64.bits c)).toNat := by rw [← andI_bv]; rfl
  rw [h1, h2, BitVec.and_assoc]
theorem andI_zero (a : Int) : andI a 0 = 0 := by
  unfold andI
  rw [show BitVec.ofInt IntKind.i64.bits 0 = 0#_ from rfl, BitVec.and_zero]; rfl
theorem andI_nat {m n : Nat} (h : n < 9223372036854775808) : andI (m : Int) (n : Int) = ((m % 18446744073709551616 &&& n : Nat) : Int) := by
  unfold andI
  rw [BitVec.ofInt_natCast, BitVec.ofInt_natCast, BitVec.toNat_and, BitVec.toNat_ofNat, BitVec.toNat_ofNat]
  show IntKind.i64.wrap ((m % 18446744073709551616 &&& n % 18446744073709551616 : Nat) : Int) = _
  rw [Nat.mod_eq_of_lt (a := n) (by omega)]
  have : m % 18446744073709551616 &&& n ≤ n := Nat.and_le_right
  exact wrap_id (by omega) (by omega)
theorem andI_le (a : Int) {p : Int} (h : 0 ≤ p) (h2 : p < 9223372036854775808) : 0 ≤ andI a p ∧ andI a p ≤ p := by
  obtain ⟨n, rfl⟩ := Int.eq_ofNat_of_zero_le h
  unfold andI
  have h1 : (BitVec.ofInt IntKind.i64.bits a &&& BitVec.ofInt IntKind.i64.bits (n : Int)).toNat ≤ n := by
    rw [BitVec.toNat_and, BitVec.ofInt_natCast, BitVec.toNat_ofNat]
    refine Nat.le_trans Nat.and_le_right (Nat.mod_le _ _)
  rw [wrap_id (by omega) (by omega)]; omega
theorem andI_le' {p : Int} (a : Int) (h : 0 ≤ p) (h2 : p < 9223372036854775808) : 0 ≤ andI p a ∧ andI p a ≤ p := by rw [andI_comm]; exact andI_le a h h2
theorem andI_same (a b : Int) : andI a (andI a b) = andI a b := by
  rw [← andI_assoc]
  have h1 : andI (andI a a) b = IntKind.i64.wrap ((BitVec.ofInt IntKind.i64.bits a &&& BitVec.ofInt IntKind.i64.bits a) &&& BitVec.ofInt IntKind.i64.bits b).toNat := by rw [← andI_bv]; rfl
  rw [h1, BitVec.and_self]; rfl
theorem andI_self {a : Int} (h : 0 ≤ a) (h2 : a < 9223372036854775808) : andI a a = a := by
  obtain ⟨n, rfl⟩ := Int.eq_ofNat_of_zero_le h
  rw [andI_nat (by omega), Nat.mod_eq_of_lt (by omega), Nat.and_self]
theorem andI_bit {a b p : Int} (h : andI a b = b) (hp : ¬ andI b p = 0) : ¬ andI a p = 0 := fun h0 => hp (by
  rw [← h, andI_comm a b, andI_assoc, h0, andI_zero])

/-! ### bounds -/
theorem packGo_some {b t : Int} {p : Packed} : ∀ {n e0 : Nat}, packGo b t n e0 = some p → ∃ e : Nat, e0 ≤ e ∧ e < e0 + n ∧ p = ⟨e, packB b e, packL b t e⟩ ∧ packOk b t e = true
  | 0, e0, h => by cases h
  | n + 1, e0, h => by
    unfold packGo at h
    split at h
    · rename_i h1; cases h; exact ⟨e0, by omega, by omega, rfl, h1⟩
    · obtain ⟨e, h1, h2, h3, h4⟩ := packGo_some h; exact ⟨e, by omega, by omega, h3, h4⟩
theorem packGo_find {b t : Int} {e : Nat} (hp : packOk b t e = true) : ∀ {n e0 : Nat}, e0 ≤ e → e < e0 + n → ∃ f : Nat, e0 ≤ f ∧ f ≤ e ∧ packGo b t n e0 = some ⟨f, packB b f, packL b t f⟩ ∧ packOk b t f = true
  | 0, e0, h1, h2 => by omega
  | n + 1, e0, h1, h2 => by
    by_cases h : packOk b t e0 = true
    · exact ⟨e0, by omega, h1, packGo_t h, h⟩
    · have hne : e0 ≠ e := fun q => h (q ▸ hp)
      obtain ⟨f, g1, g2, g3, g4⟩ := packGo_find hp (n := n) (e0 := e0 + 1) (by omega) (by omega)
      exact ⟨f, by omega, g2, by rw [packGo_f (by simpa using h)]; exact g3, g4⟩
theorem packOk_n {b t : Int} {e : Nat} (h : packOk b t e = true) : packB b e ≤ 63 ∧ packL b t e ≤ 63 := by simpa [packOk] using h
theorem wide_e {b t : Int} (h : boundsOk b t = true) {e : Nat} (he : e ≤ 6) (hp : pack b t = some ⟨e, packB b e, packL b t e⟩) (ho : packOk b t e = true) :
    wide b t = (packB b e * 2 ^ e, min 4096 ((packB b e + packL b t e) * 2 ^ e)) := by
  obtain ⟨h0, h1, h2⟩ := bounds_n h
  obtain ⟨o1, o2⟩ := packOk_n ho
  have hu : unpackOk ⟨e, packB b e, packL b t e⟩ = true := by
    simp only [unpackOk, Bool.and_eq_true, inR_t]
    unfold packB packL at *
    rcases e_cases he with rfl | rfl | rfl | rfl | rfl | rfl | rfl <;> simp only [Int.reducePow, Int.pow_zero] at * <;> omega
  unfold wide
  rw [if_pos h, hp]
  simp only [Option.isSome_some, if_true, Option.getD_some]
  rw [unpack_yes hu]
  simp only [Int.toNat_natCast]
theorem wide_cases {b t : Int} (h : boundsOk b t = true) : wide b t = (0, 4096) ∨ ∃ e : Nat, e ≤ 6 ∧ packOk b t e = true ∧ wide b t = (packB b e * 2 ^ e, min 4096 ((packB b e + packL b t e) * 2 ^ e)) := by
  cases hp : pack b t with
  | none => left; unfold wide; rw [if_pos h, hp]; rfl
  | some p =>
    have hp2 := hp
    rw [pack_yes h] at hp2
    obtain ⟨e, h1, h2, rfl, h4⟩ := packGo_some hp2
    exact .inr ⟨e, by omega, h4, wide_e h (by omega) hp h4⟩
theorem wide_parts {e : Nat} (he : e ≤ 6) {lo hi B L : Int} (hB : 0 ≤ B ∧ B ≤ 63) (hL : 0 ≤ L ∧ L ≤ 63) (h1 : lo = B * 2 ^ e) (h2 : hi = min 4096 ((B + L) * 2 ^ e)) : boundsOk lo hi = true ∧ wide lo hi = (lo, hi) := by
  have hb : boundsOk lo hi = true := by
    simp only [boundsOk, Bool.and_eq_true, decide_eq_true_eq]
    rcases e_cases he with rfl | rfl | rfl | rfl | rfl | rfl | rfl <;> simp only [Int.reducePow, Int.pow_zero] at * <;> omega
  refine ⟨hb, ?_⟩
  have ho : packOk lo hi e = true := by
    simp only [packOk, Bool.and_eq_true, decide_eq_true_eq]
    unfold packB packL
    rcases e_cases he with rfl | rfl | rfl | rfl | rfl | rfl | rfl <;> simp only [Int.reducePow, Int.pow_zero] at * <;> omega
  obtain ⟨f, f1, f2, f3, f4⟩ := packGo_find ho (n := 7) (e0 := 0) (by omega) (by omega)
  rw [wide_e hb (e := f) (by omega) (by rw [pack_yes hb]; exact f3) f4]
  unfold packB packL
  rcases e_cases he with rfl | rfl | rfl | rfl | rfl | rfl | rfl <;> rcases e_cases (e := f) (by omega) with rfl | rfl | rfl | rfl | rfl | rfl | rfl <;>
    first
      | (exfalso; omega)
      | (simp only [Int.reducePow, Int.pow_zero, Prod.mk.injEq] at *; omega)
theorem wide_ok {b t : Int} (h : boundsOk b t = true) : 0 ≤ (wide b t).1 ∧ (wide b t).1 ≤ b ∧ t ≤ (wide b t).2 ∧ (wide b t).2 ≤ 4096 ∧ exact_ (wide b t).1 (wide b t).2 = true := by
  obtain ⟨h0, h1, h2⟩ := bounds_n h
  rcases wide_cases h with e | ⟨e, he, ho, hw⟩
  · rw [e]; exact ⟨by decide, by omega, by omega, by decide, by decide +kernel⟩
  · obtain ⟨o1, o2⟩ := packOk_n ho
    have hB : 0 ≤ packB b e ∧ packB b e ≤ 63 := ⟨by
      unfold packB
      rcases e_cases he with rfl | rfl | rfl | rfl | rfl | rfl | rfl <;> simp only [Int.reducePow, Int.pow_zero] <;> omega, o1⟩
    have hL : 0 ≤ packL b t e ∧ packL b t e ≤ 63 := ⟨by
      unfold packL
      rcases e_cases he with rfl | rfl | rfl | rfl | rfl | rfl | rfl <;> simp only [Int.reducePow, Int.pow_zero] <;> omega, o2⟩
    obtain ⟨g1, g2⟩ := wide_parts he hB hL rfl rfl
    rw [hw]
    refine ⟨?_, ?_, ?_, by dsimp only; omega, by simp only [exact_, g1, g2, decide_true, Bool.and_self]⟩
    all_goals
      dsimp only
      unfold packB packL at *
      rcases e_cases he with rfl | rfl | rfl | rfl | rfl | rfl | rfl <;> simp only [Int.reducePow, Int.pow_zero] at * <;> omega
/-! ### keys and words -/
theorem keyOk_n {k : Key} (h : keyOk k = true) : 0 ≤ k.base ∧ k.base ≤ k.top ∧ k.top ≤ 4096 ∧ 0 ≤ k.perms ∧ k.perms ≤ 63 ∧ 0 ≤ k.sealed ∧ k.sealed ≤ 7 := by
  simp only [keyOk, Bool.and_eq_true, exact_, inR_t] at h
  have := bounds_n h.1.1.1.1
  omega
theorem keyOk_mk {k : Key} (h : exact_ k.base k.top = true) (h1 : 0 ≤ k.perms ∧ k.perms ≤ 63) (h2 : 0 ≤ k.sealed ∧ k.sealed ≤ 7) : keyOk k = true := by
  simp only [keyOk, Bool.and_eq_true, inR_t]; exact ⟨⟨h, h1⟩, h2⟩
theorem keyOk_exact {k : Key} (h : keyOk k = true) : exact_ k.base k.top = true := by simp only [keyOk, Bool.and_eq_true] at h; exact h.1.1
theorem wordOk_is {w : Word} (h : wordOk w = true) (h2 : w.is = true) : keyOk w.key = true := by
  simp only [wordOk, h2, if_true, Bool.and_eq_true] at h; exact h.2
theorem wordOk_mk {n : Int} {k : Key} (h : 0 ≤ n ∧ n ≤ 65535) (h2 : keyOk k = true) : wordOk ⟨n, true, k⟩ = true := by
  simp only [wordOk, if_true, Bool.and_eq_true, inR_t]; exact ⟨h, h2⟩
theorem and65 (n : Int) : 0 ≤ andI n 65535 ∧ andI n 65535 ≤ 65535 := andI_le n (by decide) (by decide)
theorem plainW_ok (n : Int) : wordOk (plainW n) = true := by
  simp only [wordOk, plainW, Bool.and_eq_true, inR_t, Bool.false_eq_true, if_false, decide_true, and_true]
  exact and65 n
def coversK (a b : Key) : Bool := keyOk a && keyOk b && decide (a.base ≤ b.base) && decide (b.top ≤ a.top) && decide (andI a.perms b.perms = b.perms)
theorem coversK_iff {a b : Key} : coversK a b = true ↔ keyOk a = true ∧ keyOk b = true ∧ a.base ≤ b.base ∧ b.top ≤ a.top ∧ andI a.perms b.perms = b.perms := by
  simp only [coversK, Bool.and_eq_true, decide_eq_true_eq, and_assoc]
theorem coversK_refl {a : Key} (h : keyOk a = true) : coversK a a = true :=
  coversK_iff.2 ⟨h, h, Int.le_refl _, Int.le_refl _, andI_self (by have := keyOk_n h; omega) (by have := keyOk_n h; omega)⟩
theorem coversK_trans {a b c : Key} (h : coversK a b = true) (k : coversK b c = true) : coversK a c = true := by
  obtain ⟨h1, h2, h3, h4, h5⟩ := coversK_iff.1 h
  obtain ⟨k1, k2, k3, k4, k5⟩ := coversK_iff.1 k
  exact coversK_iff.2 ⟨h1, k2, by omega, by omega, by rw [← k5, ← andI_assoc, h5]⟩
def Und (C : List Word) (w : Word) : Prop := w.is = true → ∃ c ∈ C, c.is = true ∧ coversK c.key w.key = true
theorem und_bare (C : List Word) (n : Int) : Und C (plainW n) := fun h => by cases h
theorem und_zero (C : List Word) : Und C zW := fun h => by cases h
theorem und_of {C : List Word} {w v : Word} (h : Und C w) (hw : w.is = true) (hk : coversK w.key v.key = true) : Und C v := fun _ => by
  obtain ⟨c, h1, h2, h3⟩ := h hw
  exact ⟨c, h1, h2, coversK_trans h3 hk⟩
theorem openW_iff {w : Word} : openW w = true ↔ wordOk w = true ∧ w.is = true ∧ w.key.sealed = 0 := by
  simp only [openW, Bool.and_eq_true, beq_iff_eq, and_assoc]
theorem sealsB_n {y : Word} (h : sealsB y = true) : openW y = true ∧ ¬ andI y.key.perms 32 = 0 ∧ 1 ≤ y.n ∧ y.n ≤ 7 := by
  simp only [sealsB, Bool.and_eq_true, bne_iff_ne, inR_t] at h
  exact ⟨h.1.1.1.1, h.1.1.1.2, h.2.1, h.2.2⟩
def Fine (w v : Word) : Prop := wordOk v = true ∧ (v.is = true → w.is = true ∧ coversK w.key v.key = true)
theorem fine_bare (w : Word) (n : Int) : Fine w (plainW n) := ⟨plainW_ok n, fun h => by cases h⟩
theorem fine_self {w : Word} (h : wordOk w = true) : Fine w w := ⟨h, fun hi => ⟨hi, coversK_refl (wordOk_is h hi)⟩⟩
theorem Fine.und {C : List Word} {w v : Word} (h : Fine w v) (hu : Und C w) : Und C v := fun hi => by
  obtain ⟨h1, h2⟩ := h.2 hi
  exact und_of hu h1 h2 hi
theorem weakenW_fine (w : Word) (m : Int) : Fine w (weakenW w m) := by
  unfold weakenW
  split
  · rename_i h
    obtain ⟨h1, h2, h3⟩ := openW_iff.1 h
    have hk := wordOk_is h1 h2
    have hn := keyOk_n hk
    have hp := andI_le' (andI m 63) (p := w.key.perms) (by omega) (by omega)
    have hk' : keyOk { w.key with perms := andI w.key.perms (andI m 63) } = true := keyOk_mk (k := ⟨w.key.base, w.key.top, andI w.key.perms (andI m 63), w.key.sealed⟩) (keyOk_exact (k := w.key) hk) ⟨hp.1, by dsimp only; omega⟩ (by dsimp only; omega)
    refine ⟨?_, fun _ => ⟨h2, coversK_iff.2 ⟨hk, hk', Int.le_refl _, Int.le_refl _, andI_same _ _⟩⟩⟩
    have hw := wordOk_n h1
    simp only [wordOk, h2, if_true, Bool.and_eq_true, inR_t]
    exact ⟨hw, hk'⟩
  · exact fine_bare w _
theorem narrowW_fine (w : Word) (n : Int) : Fine w (narrowW w n) := by
  unfold narrowW
  split
  · rename_i h
    simp only [Bool.and_eq_true] at h
    obtain ⟨⟨h, _⟩, hb⟩ := h
    obtain ⟨h1, h2, h3⟩ := openW_iff.1 h
    have hk := wordOk_is h1 h2
    have hn := keyOk_n hk
    split
    · exact fine_bare w _
    · rename_i hr
      obtain ⟨w1, w2, w3, w4, w5⟩ := wide_ok hb
      have hk' : keyOk { w.key with base := (wide w.n (IntKind.i64.wrap (w.n + n))).1, top := (wide w.n (IntKind.i64.wrap (w.n + n))).2 } = true := keyOk_mk w5 (by dsimp only; omega) (by dsimp only; omega)
      refine ⟨?_, fun _ => ⟨h2, coversK_iff.2 ⟨hk, hk', by dsimp only; omega, by dsimp only; omega, andI_self (by omega) (by omega)⟩⟩⟩
      have hw := wordOk_n h1
      simp only [wordOk, h2, if_true, Bool.and_eq_true, inR_t]
      exact ⟨hw, hk'⟩
  · exact fine_bare w _
theorem pointW_fine (w : Word) (n : Int) : Fine w (pointW w n) := by
  unfold pointW
  split
  · rename_i h
    obtain ⟨h1, h2, h3⟩ := openW_iff.1 h
    exact ⟨wordOk_mk (and65 n) (wordOk_is h1 h2), fun _ => ⟨h2, coversK_refl (wordOk_is h1 h2)⟩⟩
  · exact fine_bare w _
theorem seal_fine {w : Word} (h1 : wordOk w = true) (h2 : w.is = true) {s : Int} (hs : 0 ≤ s ∧ s ≤ 7) : Fine w { w with key := { w.key with sealed := s } } := by
  have hk := wordOk_is h1 h2
  have hn := keyOk_n hk
  have hk' : keyOk { w.key with sealed := s } = true := keyOk_mk (k := ⟨w.key.base, w.key.top, w.key.perms, s⟩) (keyOk_exact (k := w.key) hk) (by dsimp only; omega) hs
  refine ⟨?_, fun _ => ⟨h2, coversK_iff.2 ⟨hk, hk', Int.le_refl _, Int.le_refl _, andI_self (by omega) (by omega)⟩⟩⟩
  have hw := wordOk_n h1
  simp only [wordOk, h2, if_true, Bool.and_eq_true, inR_t]
  exact ⟨hw, hk'⟩
theorem sealBy_fine (w y : Word) : Fine w (sealBy w y) := by
  unfold sealBy
  split
  · rename_i h
    simp only [Bool.and_eq_true] at h
    obtain ⟨h1, h2, h3⟩ := openW_iff.1 h.1
    exact seal_fine h1 h2 (by have := sealsB_n h.2; omega)
  · exact fine_bare w _
theorem openBy_fine (w y : Word) : Fine w (openBy w y) := by
  unfold openBy
  split
  · rename_i h
    simp only [Bool.and_eq_true] at h
    exact seal_fine h.1.1.1 h.1.1.2 (by decide)
  · exact fine_bare w _
theorem takenW_fine {y w : Word} (h : wordOk w = true) : Fine w (takenW y w) := by
  unfold takenW
  split
  · exact fine_bare w _
  · exact fine_self h
theorem filterW_fine {g : List Bool} {w : Word} (h : wordOk w = true) : Fine w (filterW g w) := by
  unfold filterW
  split
  · exact fine_bare w _
  · exact fine_self h
theorem zW_ok : wordOk zW = true := by decide
theorem tryW_0 {w : Word} {n p : Int} (h : tryW w n p = 0) : wordOk w = true ∧ w.is = true ∧ w.key.sealed = 0 ∧ andI w.key.perms p = p ∧ w.key.base ≤ n ∧ n < w.key.top := by
  unfold tryW at h
  split at h
  · cases h
  · rename_i h1
    split at h
    · cases h
    · rename_i h2
      split at h
      · cases h
      · rename_i h3
        split at h
        · cases h
        · rename_i h4
          exact ⟨by cases e : wordOk w with | true => rfl | false => exact absurd (.inr e) h1, by cases e : w.is with | true => rfl | false => exact absurd (.inl e) h1, by omega, by omega, by omega, by omega⟩
theorem tryW_in (w : Word) (n p : Int) : 0 ≤ tryW w n p ∧ tryW w n p ≤ 4 := by
  unfold tryW
  repeat' split
  all_goals omega
theorem getD_ok {ws : List Word} (h : ∀ w ∈ ws, wordOk w = true) (i : Nat) : wordOk (ws.getD i (FT.zero .word)) = true := by
  rw [List.getD_eq_getElem?_getD]
  cases e : ws[i]? with
  | none => exact zW_ok
  | some w => exact h w (List.mem_of_getElem? e)
theorem getD_und {C ws : List Word} (h : ∀ w ∈ ws, Und C w) (i : Nat) : Und C (ws.getD i (FT.zero .word)) := by
  rw [List.getD_eq_getElem?_getD]
  cases e : ws[i]? with
  | none => exact und_zero C
  | some w => exact h w (List.mem_of_getElem? e)

/-! states that are right stay so -/
theorem memoryOk_iff {m : Mem} : memoryOk m = true ↔ m.words.length = 24 ∧ m.gone.length = 24 ∧ ∀ w ∈ m.words, wordOk w = true := by
  simp only [memoryOk, Bool.and_eq_true, decide_eq_true_eq, List.all_eq_true, and_assoc]
theorem stateOk_iff {s : State} : stateOk s = true ↔ s.regs.length = 8 ∧ (∀ w ∈ s.regs, wordOk w = true) ∧ wordOk s.pc = true ∧ memoryOk s.mem = true ∧ 0 ≤ s.trap ∧ s.trap ≤ 5 := by
  simp only [stateOk, Bool.and_eq_true, decide_eq_true_eq, List.all_eq_true, inR_t, and_assoc]
theorem fine_zero (w : Word) : Fine w zW := ⟨zW_ok, fun h => by cases h⟩
def Made (pc a b got v : Word) : Prop := Fine pc v ∨ Fine a v ∨ Fine b v ∨ Fine got v
theorem Made.ok {pc a b got v : Word} (h : Made pc a b got v) : wordOk v = true := by rcases h with h | h | h | h <;> exact h.1
theorem Made.und {C : List Word} {pc a b got v : Word} (h : Made pc a b got v) (h1 : Und C pc) (h2 : Und C a) (h3 : Und C b) (h4 : Und C got) : Und C v := by
  rcases h with h | h | h | h
  · exact h.und h1
  · exact h.und h2
  · exact h.und h3
  · exact h.und h4
theorem madeW_made {x : Inst} {pc a b got : Word} (ha : wordOk a = true) (hg : wordOk got = true) : Made pc a b got (madeW x a b got) := by
  unfold madeW
  repeat' split
  · exact .inr (.inl (fine_bare _ _))
  · exact .inr (.inl (fine_bare _ _))
  · exact .inr (.inl (fine_self ha))
  · exact .inr (.inl (weakenW_fine _ _))
  · exact .inr (.inl (narrowW_fine _ _))
  · exact .inr (.inl (pointW_fine _ _))
  · exact .inr (.inl (sealBy_fine _ _))
  · exact .inr (.inl (openBy_fine _ _))
  · exact .inr (.inl (fine_bare _ _))
  · exact .inr (.inl (fine_bare _ _))
  · exact .inr (.inr (.inr (fine_self hg)))
theorem nextW_made {pc a b got : Word} : Made pc a b got (nextW pc) := .inl (pointW_fine _ _)
theorem made_zero {pc a b got : Word} : Made pc a b got zW := .inl (fine_zero _)
structure WorkSpec (x : Inst) (pc a b got : Word) (e : Eff) : Prop where
  val : Made pc a b got e.val
  next : Made pc a b got e.next
  put : Made pc a b got e.put
  addr : e.addr ≠ -1 → x.op = 11 ∧ e.addr = IntKind.i64.wrap (a.n + x.n) ∧ e.put = b
  drop : e.drop ≠ -1 → tryW a a.n 32 = 0 ∧ e.drop = a.key.base
theorem workE_spec {x : Inst} {pc a b got : Word} (ha : wordOk a = true) (hb : wordOk b = true) (hg : wordOk got = true) :
    (0 ≤ (workE x pc a b got).trap ∧ (workE x pc a b got).trap ≤ 5) ∧ ((workE x pc a b got).trap = 0 → WorkSpec x pc a b got (workE x pc a b got)) := by
  unfold workE
  split
  · rename_i h
    exact ⟨(show (0 : Int) ≤ 0 ∧ (0 : Int) ≤ 5 by decide), fun _ => ⟨made_zero, nextW_made, .inr (.inr (.inl (fine_self hb))), fun _ => ⟨h, rfl, rfl⟩, fun h => absurd rfl h⟩⟩
  split
  · split
    · have := tryW_in a a.n 4
      rename_i h2
      exact ⟨by show 0 ≤ tryW a a.n 4 ∧ tryW a a.n 4 ≤ 5; omega, fun h => absurd h h2⟩
    · exact ⟨(show (0 : Int) ≤ 0 ∧ (0 : Int) ≤ 5 by decide), fun _ => ⟨nextW_made, .inr (.inl (fine_self ha)), made_zero, fun h => absurd rfl h, fun h => absurd rfl h⟩⟩
  split
  · refine ⟨(show (0 : Int) ≤ 0 ∧ (0 : Int) ≤ 5 by decide), fun _ => ⟨made_zero, ?_, made_zero, fun h => absurd rfl h, fun h => absurd rfl h⟩⟩
    dsimp only
    split
    · exact .inl (pointW_fine _ _)
    · exact nextW_made
  split
  · split
    · have := tryW_in a a.n 32
      rename_i h2
      exact ⟨by show 0 ≤ tryW a a.n 32 ∧ tryW a a.n 32 ≤ 5; omega, fun h => absurd h h2⟩
    · rename_i h2
      exact ⟨(show (0 : Int) ≤ 0 ∧ (0 : Int) ≤ 5 by decide), fun _ => ⟨made_zero, nextW_made, made_zero, fun h => absurd rfl h, fun _ => ⟨by simpa using h2, rfl⟩⟩⟩
  split
  · exact ⟨(show (0 : Int) ≤ 5 ∧ (5 : Int) ≤ 5 by decide), fun h => by cases h⟩
  split
  · refine ⟨(show (0 : Int) ≤ 0 ∧ (0 : Int) ≤ 5 by decide), fun _ => ⟨?_, nextW_made, made_zero, fun h => absurd rfl h, fun h => absurd rfl h⟩⟩
    dsimp only
    split
    · exact madeW_made ha hg
    · exact made_zero
  · exact ⟨(show (0 : Int) ≤ 0 ∧ (0 : Int) ≤ 5 by decide), fun _ => ⟨made_zero, nextW_made, made_zero, fun h => absurd rfl h, fun h => absurd rfl h⟩⟩
theorem readC_00 {m : Mem} {y : Word} {n : Int} (h : readC m y n = 0) : tryW y n 1 = 0 ∧ 0 ≤ n ∧ n ≤ m.words.length - 1 := by
  unfold readC at h
  split at h
  · rename_i h1; exact absurd h h1
  · rename_i h1
    split at h
    · rename_i h2; exact ⟨by omega, by have := inR_t.1 h2; omega⟩
    · cases h
theorem writeC_00 {m : Mem} {y w : Word} {n : Int} (h : writeC m y n w = 0) : tryW y n 2 = 0 ∧ 0 ≤ n ∧ n ≤ m.words.length - 1 := by
  unfold writeC at h
  split at h
  · rename_i h1; exact absurd h h1
  · rename_i h1
    split at h
    · cases h
    · rename_i h2
      have h2 : inR n 0 (m.words.length - 1) = true := by simpa using h2
      exact ⟨by omega, by have := inR_t.1 h2; omega⟩
theorem readM_00 {m : Mem} {y : Word} {n : Int} (h : (readM m y n).2 = 0) : tryW y n 1 = 0 ∧ 0 ≤ n ∧ n ≤ m.words.length - 1 ∧ (readM m y n).1 = filterW m.gone (takenW y (m.words.getD n.toNat (FT.zero .word))) := by
  unfold readM at h ⊢
  split at h
  · rename_i h1; exact absurd h h1
  · rename_i h1
    rw [if_neg h1]
    have := readC_00 (m := m) (y := y) (n := n) (by omega)
    exact ⟨this.1, this.2.1, this.2.2, rfl⟩
theorem readM_ok {m : Mem} (hm : ∀ w ∈ m.words, wordOk w = true) (y : Word) (n : Int) : wordOk (readM m y n).1 = true := by
  unfold readM
  split
  · exact zW_ok
  · exact (filterW_fine (takenW_fine (getD_ok hm _)).1).1
theorem memE_ok {m : Mem} (hm : ∀ w ∈ m.words, wordOk w = true) (x : Inst) (a b : Word) : wordOk (memE m x a b).1 = true := by
  unfold memE
  repeat' split
  · exact readM_ok hm _ _
  · exact zW_ok
  · exact zW_ok
structure EffSpec (l : List Inst) (s : State) (x : Inst) (a b got : Word) : Prop where
  fetch : fetchI l s.pc = (x, 0)
  hx : insOk x = true
  ha : a = s.regs.getD x.a.toNat (FT.zero .word)
  hb : b = s.regs.getD x.b.toNat (FT.zero .word)
  mem : memE s.mem x a b = (got, 0)
  eff : effE l s = workE x s.pc a b got
theorem effE_parts {l : List Inst} {s : State} (h : (effE l s).trap = 0) : ∃ x a b got, EffSpec l s x a b got := by
  by_cases h1 : (fetchI l s.pc).2 = 0
  · by_cases h2 : (memE s.mem (fetchI l s.pc).1 (s.regs.getD (fetchI l s.pc).1.a.toNat (FT.zero .word)) (s.regs.getD (fetchI l s.pc).1.b.toNat (FT.zero .word))).2 = 0
    · refine ⟨(fetchI l s.pc).1, _, _, (memE s.mem (fetchI l s.pc).1 (s.regs.getD (fetchI l s.pc).1.a.toNat (FT.zero .word)) (s.regs.getD (fetchI l s.pc).1.b.toNat (FT.zero .word))).1, ?_, fetchI_ok h1, rfl, rfl, ?_, ?_⟩
      · rw [← h1]
      · rw [← h2]
      · unfold effE; simp only; rw [if_neg (by simpa using h1), if_neg (by simpa using h2)]
    · unfold effE at h; simp only at h; rw [if_neg (by simpa using h1), if_pos h2] at h; exact absurd h h2
  · unfold effE at h; simp only at h; rw [if_pos h1] at h; exact absurd h h1
theorem EffSpec.work {l : List Inst} {s : State} {x : Inst} {a b got : Word} (h : EffSpec l s x a b got) (hs : stateOk s = true) (h0 : (effE l s).trap = 0) : WorkSpec x s.pc a b got (effE l s) := by
  obtain ⟨h1, h2, h3, h4, h5, h6⟩ := stateOk_iff.1 hs
  obtain ⟨m1, m2, m3⟩ := memoryOk_iff.1 h4
  have hg := memE_ok m3 x a b
  rw [h.mem] at hg
  rw [h.eff] at h0 ⊢
  exact (workE_spec (by rw [h.ha]; exact getD_ok h2 _) (by rw [h.hb]; exact getD_ok h2 _) hg).2 h0
theorem EffSpec.store {l : List Inst} {s : State} {x : Inst} {a b got : Word} (h : EffSpec l s x a b got) (hs : stateOk s = true) (h0 : (effE l s).trap = 0) (ha : (effE l s).addr ≠ -1) :
    tryW a (effE l s).addr 2 = 0 ∧ 0 ≤ (effE l s).addr ∧ (effE l s).addr ≤ 23 ∧ (effE l s).put = b := by
  obtain ⟨w1, w2, w3⟩ := (h.work hs h0).addr ha
  have hm := h.mem
  rw [memE_11 (by omega) w1] at hm
  have := writeC_00 (congrArg Prod.snd hm)
  obtain ⟨h1, h2, h3, h4, h5, h6⟩ := stateOk_iff.1 hs
  obtain ⟨m1, m2, m3⟩ := memoryOk_iff.1 h4
  rw [← w2] at this
  exact ⟨this.1, this.2.1, by omega, w3⟩
theorem EffSpec.load {l : List Inst} {s : State} {x : Inst} {a b got : Word} (h : EffSpec l s x a b got) : got = zW ∨ ∃ n : Int, tryW a n 1 = 0 ∧ 0 ≤ n ∧ n ≤ s.mem.words.length - 1 ∧ got = filterW s.mem.gone (takenW a (s.mem.words.getD n.toNat (FT.zero .word))) := by
  have hm := h.mem
  by_cases h1 : x.op = 10
  · rw [memE_10 h1] at hm
    obtain ⟨r1, r2, r3, r4⟩ := readM_00 (congrArg Prod.snd hm)
    right
    refine ⟨_, r1, r2, r3, ?_⟩
    rw [← r4, hm]
  · left
    by_cases h2 : x.op = 11
    · rw [memE_11 h1 h2] at hm; exact (congrArg Prod.fst hm).symm
    · rw [memE_x h1 h2] at hm; exact (congrArg Prod.fst hm).symm
theorem mem_set {α : Type} {xs : List α} {i : Nat} {v x : α} (h : x ∈ xs.set i v) : x ∈ xs ∨ x = v := List.mem_or_eq_of_mem_set h
theorem stepS_cases {l : List Inst} {s : State} (hs : stateOk s = true) :
    (s.trap ≠ 0 ∧ stepS l s = s) ∨ (s.trap = 0 ∧ (effE l s).trap ≠ 0 ∧ stepS l s = ⟨s.regs, s.pc, s.mem, (effE l s).trap⟩) ∨ (s.trap = 0 ∧ (effE l s).trap = 0 ∧ stepS l s = putE s (effE l s)) := by
  by_cases h : s.trap = 0
  · by_cases h2 : (effE l s).trap = 0
    · exact .inr (.inr ⟨h, h2, stepS_0 hs h h2⟩)
    · exact .inr (.inl ⟨h, h2, stepS_e hs h h2⟩)
  · exact .inl ⟨h, stepS_trap hs h⟩

/-! a closure: it has its roots, what its words open, and no more -/
theorem hasKey_iff {l : List Word} {k : Key} : hasKey l k = true ↔ ∃ x ∈ l, x.key = k := by
  simp only [hasKey, List.any_eq_true, decide_eq_true_eq]
theorem hasKey_mono {a b : List Word} {k : Key} (h : ∀ x ∈ a, x ∈ b) (hk : hasKey a k = true) : hasKey b k = true := by
  obtain ⟨x, h1, h2⟩ := hasKey_iff.1 hk
  exact hasKey_iff.2 ⟨x, h x h1, h2⟩
theorem putW_min {P : Word → Prop} {out : List Word} {w : Word} (h : ∀ x ∈ out, P x) (hw : w.is = true → wordOk w = true → P w) : ∀ x ∈ putW out w, P x := by
  intro x hx
  unfold putW at hx
  split at hx
  · rename_i hc
    simp only [Bool.and_eq_true] at hc
    rcases List.mem_append.1 hx with q | q
    · exact h x q
    · rw [List.mem_singleton.1 q]; exact hw hc.1.1 hc.1.2
  · exact h x hx
theorem foldPut_min {P : Word → Prop} : ∀ {l out : List Word}, (∀ x ∈ out, P x) → (∀ w ∈ l, w.is = true → wordOk w = true → P w) → ∀ x ∈ l.foldl putW out, P x
  | [], out, h, _ => h
  | v :: l, out, h, hl => foldPut_min (l := l) (putW_min h (hl v (by simp))) (fun w hw => hl w (by simp [hw]))
theorem scan_min {P : Word → Prop} {ws : List Word} : ∀ {n c : Nat} {out : List Word}, (∀ x ∈ out, P x) → (∀ j, c ≤ j → j < c + n → (ws.getD j (FT.zero .word)).is = true → P (ws.getD j (FT.zero .word))) → ∀ x ∈ scan ws n c out, P x
  | 0, c, out, h, _ => h
  | n + 1, c, out, h, hj => scan_min (n := n) (c := c + 1) (putW_min h fun hi _ => hj c (by omega) (by omega) hi) (fun j h1 h2 => hj j (by omega) (by omega))
def Cov (ws out : List Word) (k : Key) : Prop := opens k = true → ∀ j : Nat, k.base.toNat ≤ j → j < k.base.toNat + (min k.top 24 - k.base).toNat → (ws.getD j (FT.zero .word)).is = true → hasKey out (ws.getD j (FT.zero .word)).key = true
theorem Cov.mono {ws a b : List Word} {k : Key} (h : Cov ws a k) (hs : ∀ x ∈ a, x ∈ b) : Cov ws b k := fun ho j h1 h2 h3 => hasKey_mono hs (h ho j h1 h2 h3)
theorem closGo_min {P : Word → Prop} {ws : List Word} (hk : ∀ k : Word, P k → opens k.key = true → ∀ j : Nat, k.key.base.toNat ≤ j → j < k.key.base.toNat + (min k.key.top 24 - k.key.base).toNat → (ws.getD j (FT.zero .word)).is = true → P (ws.getD j (FT.zero .word))) :
    ∀ {n i : Nat} {out : List Word}, (∀ x ∈ out, P x) → ∀ x ∈ closGo ws n i out, P x
  | 0, _, _, h => h
  | n + 1, i, out, h => by
    unfold closGo; split
    · rename_i hi
      refine closGo_min hk (n := n) ?_
      unfold closStep; split
      · rename_i ho
        exact scan_min h (fun j h1 h2 h3 => hk _ (h _ (getD_mem hi)) ho j h1 h2 h3)
      · exact h
    · exact h
theorem closure_min {P : Word → Prop} {m : Mem} {l : List Word} (hl : ∀ w ∈ l, w.is = true → wordOk w = true → P w)
    (hk : ∀ k : Word, P k → opens k.key = true → ∀ j : Nat, k.key.base.toNat ≤ j → j < k.key.base.toNat + (min k.key.top 24 - k.key.base).toNat → (m.words.getD j (FT.zero .word)).is = true → P (m.words.getD j (FT.zero .word))) : ∀ x ∈ closure m l, P x := by
  unfold closure; split
  · exact closGo_min hk (foldPut_min (fun x hx => by cases hx) hl)
  · intro x hx; cases hx
/-! ### what is under a closed set -/
def Reach (C : List Word) (m : Mem) : Prop := ∀ c ∈ C, c.is = true → opens c.key = true → ∀ j : Nat, c.key.base ≤ j → (j : Int) < c.key.top → j < 24 → Und C (m.words.getD j (FT.zero .word))
theorem opens_iff {k : Key} : opens k = true ↔ ¬ andI k.perms 1 = 0 ∧ ¬ andI k.perms 8 = 0 := by simp [opens]
theorem opens_up {a b : Key} (h : coversK a b = true) (ho : opens b = true) : opens a = true := by
  obtain ⟨h1, h2, h3, h4, h5⟩ := coversK_iff.1 h
  obtain ⟨o1, o2⟩ := opens_iff.1 ho
  exact opens_iff.2 ⟨andI_bit h5 o1, andI_bit h5 o2⟩
theorem closure_under {C : List Word} {m : Mem} {l : List Word} (hl : ∀ w ∈ l, Und C w) (hr : Reach C m) : ∀ x ∈ closure m l, Und C x := by
  intro x hx
  have hm : memoryOk m = true := by
    unfold closure at hx; split at hx
    · assumption
    · cases hx
  obtain ⟨m1, m2, m3⟩ := memoryOk_iff.1 hm
  refine (closure_min (P := fun x => (x.is = true ∧ wordOk x = true) ∧ Und C x) (fun w hw h1 h2 => ⟨⟨h1, h2⟩, hl w hw⟩) (fun k hk ho j h1 h2 h3 => ?_) x hx).2
  obtain ⟨⟨hki, hko⟩, hku⟩ := hk
  have hn := keyOk_n (wordOk_is hko hki)
  refine ⟨⟨h3, getD_ok m3 j⟩, ?_⟩
  obtain ⟨c, c1, c2, c3⟩ := hku hki
  obtain ⟨q1, q2, q3, q4, q5⟩ := coversK_iff.1 c3
  exact hr c c1 c2 (opens_up c3 ho) j (by omega) (by omega) (by omega)
theorem hasP_iff {w : Word} {p : Int} : hasP w p = true ↔ w.is = true ∧ ¬ andI w.key.perms p = 0 := by simp [hasP]
theorem mem_filt {f : Nat → Bool} {n : Nat} {c : Int} : c ∈ filt f n ↔ ∃ j : Nat, j < n ∧ f j = true ∧ c = j := by
  simp only [filt, List.mem_map, List.mem_filter, List.mem_range]
  constructor
  · rintro ⟨j, ⟨h1, h2⟩, rfl⟩; exact ⟨j, h1, h2, rfl⟩
  · rintro ⟨j, h1, h2, rfl⟩; exact ⟨j, ⟨h1, h2⟩, rfl⟩
theorem coverP_iff {ws : List Word} {p : Int} {c : Nat} : coverP ws p c = true ↔ ∃ w ∈ ws, hasP w p = true ∧ w.key.base ≤ c ∧ (c : Int) ≤ w.key.top - 1 := by
  simp only [coverP, List.any_eq_true, Bool.and_eq_true, inR_t]
theorem cover_up {C : List Word} {w : Word} {p : Int} {c : Nat} (h : Und C w) (hp : hasP w p = true) (h1 : w.key.base ≤ c) (h2 : (c : Int) ≤ w.key.top - 1) : coverP C p c = true := by
  obtain ⟨p1, p2⟩ := hasP_iff.1 hp
  obtain ⟨d, d1, d2, d3⟩ := h p1
  obtain ⟨q1, q2, q3, q4, q5⟩ := coversK_iff.1 d3
  exact coverP_iff.2 ⟨d, d1, hasP_iff.2 ⟨d2, andI_bit q5 p2⟩, by omega, by omega⟩
theorem mem_cellsBy {m : Mem} {l : List Word} {p c : Int} : c ∈ cellsBy m l p ↔ ∃ j : Nat, j < 24 ∧ coverP (closure m l) p j = true ∧ c = j := mem_filt
structure Inv (C : List Word) (s : State) : Prop where
  ok : stateOk s = true
  regs : ∀ w ∈ s.regs, Und C w
  pc : Und C s.pc
  mem : Reach C s.mem
def hold (s : State) : List Word := s.regs ++ [s.pc]
theorem Inv.under {C : List Word} {s : State} (h : Inv C s) : ∀ x ∈ closure s.mem (hold s), Und C x := closure_under (fun w hw => by
  rcases List.mem_append.1 hw with q | q
  · exact h.regs w q
  · rw [List.mem_singleton.1 q]; exact h.pc) h.mem
theorem Inv.got {C : List Word} {l : List Inst} {s : State} (h : Inv C s) {x : Inst} {a b got : Word} (he : EffSpec l s x a b got) : Und C a ∧ Und C b ∧ Und C got := by
  obtain ⟨r1, r2, r3, r4, r5, r6⟩ := stateOk_iff.1 h.ok
  obtain ⟨m1, m2, m3⟩ := memoryOk_iff.1 r4
  have ha : Und C a := by rw [he.ha]; exact getD_und h.regs _
  have hb : Und C b := by rw [he.hb]; exact getD_und h.regs _
  refine ⟨ha, hb, ?_⟩
  rcases he.load with rfl | ⟨n, h1, h2, h3, rfl⟩
  · exact und_zero C
  · obtain ⟨t1, t2, t3, t4, t5, t6⟩ := tryW_0 h1
    obtain ⟨j, rfl⟩ := Int.eq_ofNat_of_zero_le h2
    have hj : j < 24 := by omega
    rw [Int.toNat_natCast]
    by_cases h8 : andI a.key.perms 8 = 0
    · rw [show takenW a (s.mem.words.getD j (FT.zero .word)) = plainW (s.mem.words.getD j (FT.zero .word)).n from if_pos h8]
      exact (filterW_fine (plainW_ok _)).und (und_bare C _)
    · obtain ⟨c, c1, c2, c3⟩ := ha t2
      obtain ⟨q1, q2, q3, q4, q5⟩ := coversK_iff.1 c3
      have hu := h.mem c c1 c2 (opens_up c3 (opens_iff.2 ⟨by rw [t4]; decide, h8⟩)) j (by omega) (by omega) hj
      exact (filterW_fine (takenW_fine (getD_ok m3 j)).1).und ((takenW_fine (getD_ok m3 j)).und hu)
theorem getD_set2 {α : Type} (xs : List α) (i j : Nat) (v d : α) : (xs.set i v).getD j d = if i = j ∧ j < xs.length then v else xs.getD j d := by
  simp only [List.getD_eq_getElem?_getD, List.getElem?_set]
  split
  · rename_i h; subst h
    split
    · rename_i h; simp [h]
    · rename_i h; simp [h]
  · rename_i h; simp [h]
theorem Inv.cell {C : List Word} {l : List Inst} {s : State} (h : Inv C s) {c : Nat} (hc : (stepS l s).mem.words.getD c (FT.zero .word) ≠ s.mem.words.getD c (FT.zero .word)) : c < 24 ∧ coverP C 2 c = true := by
  have hs := h.ok
  rcases stepS_cases (l := l) hs with ⟨h1, h2⟩ | ⟨h1, h2, h3⟩ | ⟨h1, h2, h3⟩
  · rw [h2] at hc; exact absurd rfl hc
  · rw [h3] at hc; exact absurd rfl hc
  · rw [h3] at hc
    obtain ⟨x, a, b, got, he⟩ := effE_parts h2
    obtain ⟨u1, u2, u3⟩ := h.got he
    unfold putE at hc; dsimp only at hc
    split at hc
    · rename_i hr
      have hr := inR_t.1 hr
      rw [getD_set2] at hc
      split at hc
      · rename_i hq
        obtain ⟨s1, s2, s3, s4⟩ := he.store hs h2 (by omega)
        obtain ⟨t1, t2, t3, t4, t5, t6⟩ := tryW_0 s1
        exact ⟨by omega, cover_up u1 (hasP_iff.2 ⟨t2, by rw [t4]; decide⟩) (by omega) (by omega)⟩
      · exact absurd rfl hc
    · exact absurd rfl hc
theorem Inv.gone {C : List Word} {l : List Inst} {s : State} (h : Inv C s) (hC : ∀ c ∈ C, hasP c 32 = false) : (stepS l s).mem.gone = s.mem.gone := by
  have hs := h.ok
  rcases stepS_cases (l := l) hs with ⟨h1, h2⟩ | ⟨h1, h2, h3⟩ | ⟨h1, h2, h3⟩
  · rw [h2]
  · rw [h3]
  · rw [h3]
    obtain ⟨x, a, b, got, he⟩ := effE_parts h2
    obtain ⟨u1, u2, u3⟩ := h.got he
    unfold putE; dsimp only
    split
    · rename_i hr
      have hr := inR_t.1 hr
      obtain ⟨d1, d2⟩ := (he.work hs h2).drop (by omega)
      obtain ⟨t1, t2, t3, t4, t5, t6⟩ := tryW_0 d1
      obtain ⟨d, e1, e2, e3⟩ := u1 t2
      obtain ⟨q1, q2, q3, q4, q5⟩ := coversK_iff.1 e3
      have := hC d e1
      rw [hasP_iff.2 ⟨e2, andI_bit q5 (by rw [t4]; decide)⟩] at this
      cases this
    · rfl
end Go.Pi
