/- Contracts of functions, each out of its run by PI. No conditions. -/
import Derived.Test.YtbenlebnogedlaaGreatC2
namespace Go.Pi
open Go.Proofs
set_option linter.unusedVariables false
set_option linter.unusedSimpArgs false
set_option maxRecDepth 100000
attribute [local irreducible] iterN
abbrev zW : Word := ⟨0, false, ⟨0, 0, 0, 0⟩⟩
abbrev zI : Inst := ⟨0, 0, 0, 0, 0⟩
def readC (m : Mem) (y : Word) (n : Int) : Int := if tryW y n 1 ≠ 0 then tryW y n 1 else if inR n 0 (m.words.length - 1) then 0 else 4
def readM (m : Mem) (y : Word) (n : Int) : Word × Int := if readC m y n ≠ 0 then (zW, readC m y n) else (filterW m.gone (takenW y (m.words.getD n.toNat (FT.zero .word))), 0)
def writeC (m : Mem) (y : Word) (n : Int) (w : Word) : Int := if tryW y n 2 ≠ 0 then tryW y n 2 else if inR n 0 (m.words.length - 1) = false then 4 else if mayPut y w = false then 3 else 0
def fetchI (l : List Inst) (pc : Word) : Inst × Int := if tryW pc pc.n 4 ≠ 0 then (zI, tryW pc pc.n 4) else if inR pc.n 0 (l.length - 1) = false ∨ insOk (l.getD pc.n.toNat (FT.zero .inst)) = false then (zI, 4) else (l.getD pc.n.toNat (FT.zero .inst), 0)
def trapE (c : Int) (pc : Word) : Eff := ⟨c, -1, zW, pc, -1, zW, -1⟩
def madeW (x : Inst) (a b got : Word) : Word :=
  if x.op = 1 then plainW x.n else if x.op = 2 then plainW (IntKind.i64.wrap (a.n + b.n)) else if x.op = 3 then a else if x.op = 4 then weakenW a b.n else if x.op = 5 then narrowW a b.n else
  if x.op = 6 then pointW a (IntKind.i64.wrap (IntKind.i64.wrap (a.n + b.n) + x.n)) else if x.op = 7 then sealBy a b else if x.op = 8 then openBy a b else if x.op = 9 then (if a.is then plainW 1 else plainW 0) else got
def nextW (pc : Word) : Word := pointW pc (IntKind.i64.wrap (pc.n + 1))
def workE (x : Inst) (pc a b got : Word) : Eff :=
  if x.op = 11 then ⟨0, -1, zW, nextW pc, IntKind.i64.wrap (a.n + x.n), b, -1⟩ else
  if x.op = 12 then (if tryW a a.n 4 ≠ 0 then trapE (tryW a a.n 4) pc else ⟨0, x.r, nextW pc, a, -1, zW, -1⟩) else
  if x.op = 13 then ⟨0, -1, zW, if a.n = 0 then pointW pc (IntKind.i64.wrap (pc.n + x.n)) else nextW pc, -1, zW, -1⟩ else
  if x.op = 14 then (if tryW a a.n 32 ≠ 0 then trapE (tryW a a.n 32) pc else ⟨0, -1, zW, nextW pc, -1, zW, a.key.base⟩) else
  if x.op = 15 then trapE 5 pc else
  if hasC x.op 82 then ⟨0, x.r, if 0 ≤ x.r then madeW x a b got else zW, nextW pc, -1, zW, -1⟩ else ⟨0, -1, zW, nextW pc, -1, zW, -1⟩

theorem readC_t {m : Mem} {y : Word} {n : Int} (h : ¬ tryW y n 1 = 0) : readC m y n = tryW y n 1 := if_pos h
theorem readC_b {m : Mem} {y : Word} {n : Int} (h : tryW y n 1 = 0) (hb : n < 0 ∨ m.words.length - 1 < n) : readC m y n = 4 := by
  unfold readC; rw [if_neg (fun q => q h), if_neg (by rw [inR_t]; omega)]
theorem readC_0 {m : Mem} {y : Word} {n : Int} (h : tryW y n 1 = 0) (hb : 0 ≤ n ∧ n ≤ m.words.length - 1) : readC m y n = 0 := by
  unfold readC; rw [if_neg (fun q => q h), if_pos (by rw [inR_t]; omega)]
theorem readM_t {m : Mem} {y : Word} {n : Int} (h : ¬ tryW y n 1 = 0) : readM m y n = (zW, tryW y n 1) := by
  unfold readM; rw [readC_t h, if_pos h]
theorem readM_b {m : Mem} {y : Word} {n : Int} (h : tryW y n 1 = 0) (hb : n < 0 ∨ m.words.length - 1 < n) : readM m y n = (zW, 4) := by
  unfold readM; rw [readC_b h hb, if_pos (by decide)]
theorem readM_0 {m : Mem} {y : Word} {n : Int} (h : tryW y n 1 = 0) (hb : 0 ≤ n ∧ n ≤ m.words.length - 1) : readM m y n = (filterW m.gone (takenW y (m.words.getD n.toNat (FT.zero .word))), 0) := by
  unfold readM; rw [readC_0 h hb, if_neg (fun q => q rfl)]
theorem writeC_t {m : Mem} {y w : Word} {n : Int} (h : ¬ tryW y n 2 = 0) : writeC m y n w = tryW y n 2 := if_pos h
theorem writeC_b {m : Mem} {y w : Word} {n : Int} (h : tryW y n 2 = 0) (hb : n < 0 ∨ m.words.length - 1 < n) : writeC m y n w = 4 := by
  unfold writeC; rw [if_neg (fun q => q h), if_pos (by rw [inR_f]; omega)]
theorem writeC_p {m : Mem} {y w : Word} {n : Int} (h : tryW y n 2 = 0) (hb : 0 ≤ n ∧ n ≤ m.words.length - 1) (hp : mayPut y w = false) : writeC m y n w = 3 := by
  unfold writeC; rw [if_neg (fun q => q h), if_neg (by rw [inR_f]; omega), if_pos hp]
theorem writeC_0 {m : Mem} {y w : Word} {n : Int} (h : tryW y n 2 = 0) (hb : 0 ≤ n ∧ n ≤ m.words.length - 1) (hp : mayPut y w = true) : writeC m y n w = 0 := by
  unfold writeC; rw [if_neg (fun q => q h), if_neg (by rw [inR_f]; omega), if_neg (by rw [hp]; decide)]
theorem fetchI_t {l : List Inst} {pc : Word} (h : ¬ tryW pc pc.n 4 = 0) : fetchI l pc = (zI, tryW pc pc.n 4) := if_pos h
theorem fetchI_b {l : List Inst} {pc : Word} (h : tryW pc pc.n 4 = 0) (hb : pc.n < 0 ∨ l.length - 1 < pc.n) : fetchI l pc = (zI, 4) := by
  unfold fetchI; rw [if_neg (fun q => q h), if_pos (.inl (by rw [inR_f]; omega))]
theorem fetchI_i {l : List Inst} {pc : Word} (h : tryW pc pc.n 4 = 0) (hi : insOk (l.getD pc.n.toNat (FT.zero .inst)) = false) : fetchI l pc = (zI, 4) := by
  unfold fetchI; rw [if_neg (fun q => q h), if_pos (.inr hi)]
theorem fetchI_0 {l : List Inst} {pc : Word} (h : tryW pc pc.n 4 = 0) (hb : 0 ≤ pc.n ∧ pc.n ≤ l.length - 1) (hi : insOk (l.getD pc.n.toNat (FT.zero .inst)) = true) : fetchI l pc = (l.getD pc.n.toNat (FT.zero .inst), 0) := by
  unfold fetchI; rw [if_neg (fun q => q h), if_neg (by rw [inR_f, hi]; rintro (h | h) <;> first | omega | cases h)]
theorem hasR (x : Inst) : hasC x.op 82 = (andI (maskI x.op) 1 != 0) := by
  obtain ⟨op, r, a, b, n⟩ := x
  dsimp only
  by_cases h : 1 ≤ op ∧ op ≤ 15
  · have hop : op = 1 ∨ op = 2 ∨ op = 3 ∨ op = 4 ∨ op = 5 ∨ op = 6 ∨ op = 7 ∨ op = 8 ∨ op = 9 ∨ op = 10 ∨ op = 11 ∨ op = 12 ∨ op = 13 ∨ op = 14 ∨ op = 15 := by omega
    rcases hop with rfl | rfl | rfl | rfl | rfl | rfl | rfl | rfl | rfl | rfl | rfl | rfl | rfl | rfl | rfl <;> decide
  · have e1 : maskI op = 0 := by unfold maskI; rw [if_neg (by rw [inR_t]; exact h)]
    have e2 : formS op = ⟨#[]⟩ := by
      unfold formS
      rw [if_neg (by omega), if_neg (by omega), if_neg (by omega), if_neg (by omega), if_neg (by omega), if_neg (by omega), if_neg (by omega), if_neg (by omega)]
    rw [e1, hasC, e2]; decide

def pf_spec_Read : PF := ⟨[.c 6 true 6, .t 7], .seq (.reg [.s (.box 3 (.t 0)), .s (.box 4 (.t 1)), .s (.alloc 6 [.int .i64 0, .ff, .int .i64 0, .int .i64 0, .int .i64 0, .int .i64 0]), .s (.mv 7 (.k (.v (.c (.int .i64 0)))))]) (.seq (.reg [.s (.load 9 true 6 (.t 4)), .s (.mv 10 (.t 2)), .s (.call (some 11) 136 [(.t 9), (.t 10), (.k (.v (.c (.int .i64 1))))]), .s (.mv 8 (.t 11))]) (.seq (.seq (.reg [.s (.mv 12 (.t 8)), .s (.bin 13 .eql (.t 12) (.k (.v (.c (.int .i64 0))))), .s (.mv 14 (.t 13)), .g 14 true (some 15) (.mv 15 (.t 2)), .g 14 true (some 16) (.fa 16 (.t 3) 0), .g 14 true (some 17) (.load 17 false 1 (.t 16)), .g 14 true (some 18) (.len 18 false (.t 17)), .g 14 true (some 19) (.bin 19 .sub (.t 18) (.k (.v (.c (.int .i64 1))))), .g 14 true (some 20) (.call (some 20) 42 [(.t 15), (.k (.v (.c (.int .i64 0)))), (.t 19)]), .g 14 true (some 21) (.bnot 21 (.t 20)), .s (.pick 22 (.t 14) (.t 21) (.k (.v (.c .ff))))]) (.cond (.t 22) (.reg [.s (.mv 8 (.k (.v (.c (.int .i64 4)))))]) (.skip))) (.seq (.seq (.reg [.s (.mv 23 (.t 8)), .s (.bin 24 .neq (.t 23) (.k (.v (.c (.int .i64 0)))))]) (.cond (.t 24) (.seq (.reg [.s (.build 25 [.int .i64 0, .ff, .int .i64 0, .int .i64 0, .int .i64 0, .int .i64 0] []), .s (.mv 26 (.t 8)), .s (.store 6 (.t 6) (.t 25)), .s (.mv 7 (.t 26))]) (.ret)) (.skip))) (.seq (.rgd [] [.s (.load 27 true 2 (.t 3)), .s (.load 28 true 6 (.t 4)), .s (.fa 29 (.t 3) 0), .s (.load 30 false 1 (.t 29)), .s (.mv 31 (.t 2)), .s (.ia 32 .word (.t 30) (.t 31)), .s (.load 33 true 6 (.t 32)), .s (.call (some 34) 204 [(.t 28), (.t 33)]), .s (.call (some 35) 203 [(.t 27), (.t 34)]), .s (.store 6 (.t 6) (.t 35)), .s (.mv 7 (.k (.v (.c (.int .i64 0)))))] (.tk 0 (.tk 1 (.tk 2 (.tk 3 (.tk 4 (.tk 5 (.tk 6 (.one 7 false (.one 8 true (.one 9 true (.tk 10 (.done none))))))))))))) (.ret)))))⟩
def c_spec_Read : Fun := ⟨174, [], fun ts K => as3 ts fun t0 t1 t2 => arG pMemT t0 fun m => arG pWordT t1 fun y => arC (pI .i64) t2 fun n => chk (LMem m 2147483647) (K (.tup [.g ((readM m y n).1.tc []), .c (.int .i64 (readM m y n).2)]) [])⟩
theorem run_spec_Read (m : Mem) (y : Word) (n : Int) (hpre : LMem m 2147483647) : runK [c_spec_l1In, c_spec_Try, c_spec_Filter, c_spec_Taken] (0) [] pf_spec_Read [tG (m.tc false []), tG (y.tc []), tI .i64 n] fun r o => r = .tup [.g ((readM m y n).1.tc []), .c (.int .i64 (readM m y n).2)] ∧ o = [] := by
  have l2 := hpre.1
  have w1 : IntKind.i64.wrap ((m.words.length : Int) - 1) = (m.words.length : Int) - 1 := wrap_id (by omega) (by omega)
  conv => whnf
  repeat' (first | (refine sel_i (fun h => ?_) (fun h => ?_) <;> conv => whnf) | (refine chk_c ?_ ?_ <;> conv => whnf) | (refine And.intro ?_ rfl) | (refine And.intro ?_ ?_ <;> conv => whnf))
  all_goals (try simp only [etaKey, etaWord, etaInst, etaMemory, w1, bne_iff_ne, ne_eq, bne_eq_false_iff_eq, beq_iff_eq, beq_eq_false_iff_ne, Bool.not_eq_true', Bool.not_eq_false', inR_t, inR_f, decide_eq_true_eq, decide_eq_false_iff_not] at *)
  all_goals first
    | (exfalso; omega)
    | (refine ⟨?_⟩; first | assumption | omega | decide)
    | (rw [readM_t (by assumption)]; rfl)
    | (rw [readM_b (by assumption) (by omega)]; rfl)
    | (rw [readM_0 (by assumption) (by omega)]; rfl)
    | trace_state
theorem ok_spec_Read : FunOk Tryz.prog c_spec_Read := funOk (E := [c_spec_l1In, c_spec_Try, c_spec_Filter, c_spec_Taken]) (envOk_cons ok_spec_l1In (envOk_cons ok_spec_Try (envOk_cons ok_spec_Filter (envOk_cons ok_spec_Taken (envOk_nil))))) mixd Tryz.func174 (pf := pf_spec_Read) (by kernel_rfl) fun ts K h => by
  obtain ⟨t0, t1, t2, e0, h⟩ := as3_out h
  subst e0
  obtain ⟨m, e1, hq⟩ := arG_out rd_mem h
  clear h
  subst e1
  have h := hq
  clear hq
  obtain ⟨y, e1, hq⟩ := arG_out rd_word h
  clear h
  subst e1
  have h := hq
  clear hq
  obtain ⟨n, e1, hq⟩ := arC_out (rd_int .i64) h
  clear h
  subst e1
  have h := hq
  clear hq
  obtain ⟨hpre, h⟩ := chk_o h
  exact ⟨_, _, h, Nat.le_of_ble_eq_true (show Nat.ble 3 Tryz.f174.ntmps = true by kernel_rfl), _, run_spec_Read m y n hpre⟩

def pf_impl_Read : PF := ⟨[.c 6 true 6, .t 7], .seq (.reg [.s (.box 3 (.t 0)), .s (.box 4 (.t 1)), .s (.alloc 6 [.int .i64 0, .ff, .int .i64 0, .int .i64 0, .int .i64 0, .int .i64 0]), .s (.mv 7 (.k (.v (.c (.int .i64 0)))))]) (.seq (.reg [.s (.load 9 true 6 (.t 4)), .s (.mv 10 (.t 2)), .s (.call (some 11) 125 [(.t 9), (.t 10), (.k (.v (.c (.int .i64 1))))]), .s (.mv 8 (.t 11))]) (.seq (.seq (.reg [.s (.mv 12 (.t 8)), .s (.bin 13 .eql (.t 12) (.k (.v (.c (.int .i64 0))))), .s (.mv 14 (.t 13)), .g 14 true (some 15) (.mv 15 (.t 2)), .g 14 true (some 16) (.fa 16 (.t 3) 0), .g 14 true (some 17) (.load 17 false 1 (.t 16)), .g 14 true (some 18) (.len 18 false (.t 17)), .g 14 true (some 19) (.bin 19 .sub (.t 18) (.k (.v (.c (.int .i64 1))))), .g 14 true (some 20) (.call (some 20) 36 [(.t 15), (.k (.v (.c (.int .i64 0)))), (.t 19)]), .g 14 true (some 21) (.bnot 21 (.t 20)), .s (.pick 22 (.t 14) (.t 21) (.k (.v (.c .ff))))]) (.cond (.t 22) (.reg [.s (.mv 8 (.k (.v (.c (.int .i64 4)))))]) (.skip))) (.seq (.seq (.reg [.s (.mv 23 (.t 8)), .s (.bin 24 .neq (.t 23) (.k (.v (.c (.int .i64 0)))))]) (.cond (.t 24) (.seq (.reg [.s (.build 25 [.int .i64 0, .ff, .int .i64 0, .int .i64 0, .int .i64 0, .int .i64 0] []), .s (.mv 26 (.t 8)), .s (.store 6 (.t 6) (.t 25)), .s (.mv 7 (.t 26))]) (.ret)) (.skip))) (.seq (.rgd [] [.s (.load 27 true 2 (.t 3)), .s (.load 28 true 6 (.t 4)), .s (.fa 29 (.t 3) 0), .s (.load 30 false 1 (.t 29)), .s (.mv 31 (.t 2)), .s (.ia 32 .word (.t 30) (.t 31)), .s (.load 33 true 6 (.t 32)), .s (.call (some 34) 149 [(.t 28), (.t 33)]), .s (.call (some 35) 148 [(.t 27), (.t 34)]), .s (.store 6 (.t 6) (.t 35)), .s (.mv 7 (.k (.v (.c (.int .i64 0)))))] (.tk 0 (.tk 1 (.tk 2 (.tk 3 (.tk 4 (.tk 5 (.tk 6 (.one 7 false (.one 8 true (.one 9 true (.tk 10 (.done none))))))))))))) (.ret)))))⟩
def c_impl_Read : Fun := ⟨103, [], fun ts K => as3 ts fun t0 t1 t2 => arG pMemT t0 fun m => arG pWordT t1 fun y => arC (pI .i64) t2 fun n => chk (LMem m 2147483647) (K (.tup [.g ((readM m y n).1.tc []), .c (.int .i64 (readM m y n).2)]) [])⟩
theorem run_impl_Read (m : Mem) (y : Word) (n : Int) (hpre : LMem m 2147483647) : runK [c_impl_in, c_impl_Try, c_impl_Filter, c_impl_Taken] (0) [] pf_impl_Read [tG (m.tc false []), tG (y.tc []), tI .i64 n] fun r o => r = .tup [.g ((readM m y n).1.tc []), .c (.int .i64 (readM m y n).2)] ∧ o = [] := by
  have l2 := hpre.1
  have w1 : IntKind.i64.wrap ((m.words.length : Int) - 1) = (m.words.length : Int) - 1 := wrap_id (by omega) (by omega)
  conv => whnf
  repeat' (first | (refine sel_i (fun h => ?_) (fun h => ?_) <;> conv => whnf) | (refine chk_c ?_ ?_ <;> conv => whnf) | (refine And.intro ?_ rfl) | (refine And.intro ?_ ?_ <;> conv => whnf))
  all_goals (try simp only [etaKey, etaWord, etaInst, etaMemory, w1, bne_iff_ne, ne_eq, bne_eq_false_iff_eq, beq_iff_eq, beq_eq_false_iff_ne, Bool.not_eq_true', Bool.not_eq_false', inR_t, inR_f, decide_eq_true_eq, decide_eq_false_iff_not] at *)
  all_goals first
    | (exfalso; omega)
    | (refine ⟨?_⟩; first | assumption | omega | decide)
    | (rw [readM_t (by assumption)]; rfl)
    | (rw [readM_b (by assumption) (by omega)]; rfl)
    | (rw [readM_0 (by assumption) (by omega)]; rfl)
    | trace_state
theorem ok_impl_Read : FunOk Tryz.prog c_impl_Read := funOk (E := [c_impl_in, c_impl_Try, c_impl_Filter, c_impl_Taken]) (envOk_cons ok_impl_in (envOk_cons ok_impl_Try (envOk_cons ok_impl_Filter (envOk_cons ok_impl_Taken (envOk_nil))))) mixd Tryz.func103 (pf := pf_impl_Read) (by kernel_rfl) fun ts K h => by
  obtain ⟨t0, t1, t2, e0, h⟩ := as3_out h
  subst e0
  obtain ⟨m, e1, hq⟩ := arG_out rd_mem h
  clear h
  subst e1
  have h := hq
  clear hq
  obtain ⟨y, e1, hq⟩ := arG_out rd_word h
  clear h
  subst e1
  have h := hq
  clear hq
  obtain ⟨n, e1, hq⟩ := arC_out (rd_int .i64) h
  clear h
  subst e1
  have h := hq
  clear hq
  obtain ⟨hpre, h⟩ := chk_o h
  exact ⟨_, _, h, Nat.le_of_ble_eq_true (show Nat.ble 3 Tryz.f103.ntmps = true by kernel_rfl), _, run_impl_Read m y n hpre⟩

def pf_spec_l8Write : PF := ⟨[.t 8], .seq (.reg [.s (.box 4 (.t 0)), .s (.box 5 (.t 1)), .s (.box 7 (.t 3)), .s (.mv 8 (.k (.v (.c (.int .i64 0)))))]) (.seq (.reg [.s (.load 10 true 6 (.t 5)), .s (.mv 11 (.t 2)), .s (.call (some 12) 136 [(.t 10), (.t 11), (.k (.v (.c (.int .i64 2))))]), .s (.mv 9 (.t 12))]) (.seq (.blk 0 (.seq (.reg [.s (.mv 14 (.t 9)), .s (.bin 15 .neq (.t 14) (.k (.v (.c (.int .i64 0))))), .s (.mv 13 (.t 15))]) (.cond (.t 13) (.seq (.reg [.s (.mv 16 (.t 9)), .s (.mv 8 (.t 16))]) (.ret)) (.seq (.reg [.s (.mv 18 (.t 2)), .s (.fa 19 (.t 4) 0), .s (.load 20 false 1 (.t 19)), .s (.len 21 false (.t 20)), .s (.bin 22 .sub (.t 21) (.k (.v (.c (.int .i64 1))))), .s (.call (some 23) 42 [(.t 18), (.k (.v (.c (.int .i64 0)))), (.t 22)]), .s (.bnot 24 (.t 23)), .s (.mv 17 (.t 24))]) (.cond (.t 17) (.seq (.reg [.s (.mv 8 (.k (.v (.c (.int .i64 4)))))]) (.ret)) (.seq (.reg [.s (.load 26 true 6 (.t 5)), .s (.load 27 true 6 (.t 7)), .s (.call (some 28) 205 [(.t 26), (.t 27)]), .s (.bnot 29 (.t 28)), .s (.mv 25 (.t 29))]) (.cond (.t 25) (.seq (.reg [.s (.mv 8 (.k (.v (.c (.int .i64 3)))))]) (.ret)) (.skip)))))))) (.seq (.reg [.s (.mv 8 (.k (.v (.c (.int .i64 0)))))]) (.ret))))⟩
def c_spec_l8Write : Fun := ⟨173, [], fun ts K => as4 ts fun t0 t1 t2 t3 => arG pMemT t0 fun m => arG pWordT t1 fun y => arC (pI .i64) t2 fun n => arG pWordT t3 fun w => chk (LMem m 2147483647) (K (tN (writeC m y n w)) [])⟩
theorem run_spec_l8Write (m : Mem) (y : Word) (n : Int) (w : Word) (hpre : LMem m 2147483647) : runK [c_spec_l1In, c_spec_Try, c_spec_MayPut] (0) [] pf_spec_l8Write [tG (m.tc false []), tG (y.tc []), tI .i64 n, tG (w.tc [])] fun r o => r = tN (writeC m y n w) ∧ o = [] := by
  have l2 := hpre.1
  have w1 : IntKind.i64.wrap ((m.words.length : Int) - 1) = (m.words.length : Int) - 1 := wrap_id (by omega) (by omega)
  conv => whnf
  repeat' (first | (refine sel_i (fun h => ?_) (fun h => ?_) <;> conv => whnf) | (refine chk_c ?_ ?_ <;> conv => whnf) | (refine And.intro ?_ rfl) | (refine And.intro ?_ ?_ <;> conv => whnf))
  all_goals (try simp only [etaKey, etaWord, etaInst, etaMemory, w1, bne_iff_ne, ne_eq, bne_eq_false_iff_eq, beq_iff_eq, beq_eq_false_iff_ne, Bool.not_eq_true', Bool.not_eq_false', inR_t, inR_f, decide_eq_true_eq, decide_eq_false_iff_not] at *)
  all_goals first
    | (exfalso; omega)
    | (refine ⟨?_⟩; first | assumption | omega | decide)
    | (rw [writeC_t (by assumption)]; done)
    | (rw [writeC_b (by assumption) (by omega)]; done)
    | (rw [writeC_p (by assumption) (by omega) (by assumption)]; done)
    | (rw [writeC_0 (by assumption) (by omega) (by assumption)]; done)
    | trace_state
theorem ok_spec_l8Write : FunOk Tryz.prog c_spec_l8Write := funOk (E := [c_spec_l1In, c_spec_Try, c_spec_MayPut]) (envOk_cons ok_spec_l1In (envOk_cons ok_spec_Try (envOk_cons ok_spec_MayPut (envOk_nil)))) mixd Tryz.func173 (pf := pf_spec_l8Write) (by kernel_rfl) fun ts K h => by
  obtain ⟨t0, t1, t2, t3, e0, h⟩ := as4_out h
  subst e0
  obtain ⟨m, e1, hq⟩ := arG_out rd_mem h
  clear h
  subst e1
  have h := hq
  clear hq
  obtain ⟨y, e1, hq⟩ := arG_out rd_word h
  clear h
  subst e1
  have h := hq
  clear hq
  obtain ⟨n, e1, hq⟩ := arC_out (rd_int .i64) h
  clear h
  subst e1
  have h := hq
  clear hq
  obtain ⟨w, e1, hq⟩ := arG_out rd_word h
  clear h
  subst e1
  have h := hq
  clear hq
  obtain ⟨hpre, h⟩ := chk_o h
  exact ⟨_, _, h, Nat.le_of_ble_eq_true (show Nat.ble 4 Tryz.f173.ntmps = true by kernel_rfl), _, run_spec_l8Write m y n w hpre⟩

def pf_impl_writeCode : PF := ⟨[.t 8], .seq (.reg [.s (.box 4 (.t 0)), .s (.box 5 (.t 1)), .s (.box 7 (.t 3)), .s (.mv 8 (.k (.v (.c (.int .i64 0)))))]) (.seq (.reg [.s (.load 10 true 6 (.t 5)), .s (.mv 11 (.t 2)), .s (.call (some 12) 125 [(.t 10), (.t 11), (.k (.v (.c (.int .i64 2))))]), .s (.mv 9 (.t 12))]) (.seq (.blk 0 (.seq (.reg [.s (.mv 14 (.t 9)), .s (.bin 15 .neq (.t 14) (.k (.v (.c (.int .i64 0))))), .s (.mv 13 (.t 15))]) (.cond (.t 13) (.seq (.reg [.s (.mv 16 (.t 9)), .s (.mv 8 (.t 16))]) (.ret)) (.seq (.reg [.s (.mv 18 (.t 2)), .s (.fa 19 (.t 4) 0), .s (.load 20 false 1 (.t 19)), .s (.len 21 false (.t 20)), .s (.bin 22 .sub (.t 21) (.k (.v (.c (.int .i64 1))))), .s (.call (some 23) 36 [(.t 18), (.k (.v (.c (.int .i64 0)))), (.t 22)]), .s (.bnot 24 (.t 23)), .s (.mv 17 (.t 24))]) (.cond (.t 17) (.seq (.reg [.s (.mv 8 (.k (.v (.c (.int .i64 4)))))]) (.ret)) (.seq (.reg [.s (.load 26 true 6 (.t 5)), .s (.load 27 true 6 (.t 7)), .s (.call (some 28) 150 [(.t 26), (.t 27)]), .s (.bnot 29 (.t 28)), .s (.mv 25 (.t 29))]) (.cond (.t 25) (.seq (.reg [.s (.mv 8 (.k (.v (.c (.int .i64 3)))))]) (.ret)) (.skip)))))))) (.seq (.reg [.s (.mv 8 (.k (.v (.c (.int .i64 0)))))]) (.ret))))⟩
def c_impl_writeCode : Fun := ⟨104, [], fun ts K => as4 ts fun t0 t1 t2 t3 => arG pMemT t0 fun m => arG pWordT t1 fun y => arC (pI .i64) t2 fun n => arG pWordT t3 fun w => chk (LMem m 2147483647) (K (tN (writeC m y n w)) [])⟩
theorem run_impl_writeCode (m : Mem) (y : Word) (n : Int) (w : Word) (hpre : LMem m 2147483647) : runK [c_impl_in, c_impl_Try, c_impl_MayPut] (0) [] pf_impl_writeCode [tG (m.tc false []), tG (y.tc []), tI .i64 n, tG (w.tc [])] fun r o => r = tN (writeC m y n w) ∧ o = [] := by
  have l2 := hpre.1
  have w1 : IntKind.i64.wrap ((m.words.length : Int) - 1) = (m.words.length : Int) - 1 := wrap_id (by omega) (by omega)
  conv => whnf
  repeat' (first | (refine sel_i (fun h => ?_) (fun h => ?_) <;> conv => whnf) | (refine chk_c ?_ ?_ <;> conv => whnf) | (refine And.intro ?_ rfl) | (refine And.intro ?_ ?_ <;> conv => whnf))
  all_goals (try simp only [etaKey, etaWord, etaInst, etaMemory, w1, bne_iff_ne, ne_eq, bne_eq_false_iff_eq, beq_iff_eq, beq_eq_false_iff_ne, Bool.not_eq_true', Bool.not_eq_false', inR_t, inR_f, decide_eq_true_eq, decide_eq_false_iff_not] at *)
  all_goals first
    | (exfalso; omega)
    | (refine ⟨?_⟩; first | assumption | omega | decide)
    | (rw [writeC_t (by assumption)]; done)
    | (rw [writeC_b (by assumption) (by omega)]; done)
    | (rw [writeC_p (by assumption) (by omega) (by assumption)]; done)
    | (rw [writeC_0 (by assumption) (by omega) (by assumption)]; done)
    | trace_state
theorem ok_impl_writeCode : FunOk Tryz.prog c_impl_writeCode := funOk (E := [c_impl_in, c_impl_Try, c_impl_MayPut]) (envOk_cons ok_impl_in (envOk_cons ok_impl_Try (envOk_cons ok_impl_MayPut (envOk_nil)))) mixd Tryz.func104 (pf := pf_impl_writeCode) (by kernel_rfl) fun ts K h => by
  obtain ⟨t0, t1, t2, t3, e0, h⟩ := as4_out h
  subst e0
  obtain ⟨m, e1, hq⟩ := arG_out rd_mem h
  clear h
  subst e1
  have h := hq
  clear hq
  obtain ⟨y, e1, hq⟩ := arG_out rd_word h
  clear h
  subst e1
  have h := hq
  clear hq
  obtain ⟨n, e1, hq⟩ := arC_out (rd_int .i64) h
  clear h
  subst e1
  have h := hq
  clear hq
  obtain ⟨w, e1, hq⟩ := arG_out rd_word h
  clear h
  subst e1
  have h := hq
  clear hq
  obtain ⟨hpre, h⟩ := chk_o h
  exact ⟨_, _, h, Nat.le_of_ble_eq_true (show Nat.ble 4 Tryz.f104.ntmps = true by kernel_rfl), _, run_impl_writeCode m y n w hpre⟩

def pf_spec_Fetch : PF := ⟨[.c 4 true 5, .t 5], .seq (.reg [.s (.box 3 (.t 1)), .s (.alloc 4 [.int .i64 0, .int .i64 0, .int .i64 0, .int .i64 0, .int .i64 0]), .s (.mv 5 (.k (.v (.c (.int .i64 0)))))]) (.seq (.reg [.s (.load 7 true 6 (.t 3)), .s (.fa 8 (.t 3) 0), .s (.load 9 false 1 (.t 8)), .s (.call (some 10) 136 [(.t 7), (.t 9), (.k (.v (.c (.int .i64 4))))]), .s (.mv 6 (.t 10))]) (.seq (.seq (.reg [.s (.mv 11 (.t 6)), .s (.bin 12 .neq (.t 11) (.k (.v (.c (.int .i64 0)))))]) (.cond (.t 12) (.seq (.reg [.s (.build 13 [.int .i64 0, .int .i64 0, .int .i64 0, .int .i64 0, .int .i64 0] []), .s (.mv 14 (.t 6)), .s (.store 5 (.t 4) (.t 13)), .s (.mv 5 (.t 14))]) (.ret)) (.skip))) (.seq (.seq (.reg [.s (.fa 15 (.t 3) 0), .s (.load 16 false 1 (.t 15)), .s (.mv 17 (.t 0)), .s (.len 18 false (.t 17)), .s (.bin 19 .sub (.t 18) (.k (.v (.c (.int .i64 1))))), .s (.call (some 20) 42 [(.t 16), (.k (.v (.c (.int .i64 0)))), (.t 19)]), .s (.bnot 21 (.t 20)), .s (.mv 22 (.t 21)), .g 22 false (some 23) (.mv 23 (.t 0)), .g 22 false (some 24) (.fa 24 (.t 3) 0), .g 22 false (some 25) (.load 25 false 1 (.t 24)), .g 22 false (some 26) (.ia 26 .inst (.t 23) (.t 25)), .g 22 false (some 27) (.load 27 true 5 (.t 26)), .g 22 false (some 28) (.call (some 28) 95 [(.t 27)]), .g 22 false (some 29) (.bnot 29 (.t 28)), .s (.pick 30 (.t 22) (.k (.v (.c .tt))) (.t 29))]) (.cond (.t 30) (.seq (.reg [.s (.build 31 [.int .i64 0, .int .i64 0, .int .i64 0, .int .i64 0, .int .i64 0] []), .s (.store 5 (.t 4) (.t 31)), .s (.mv 5 (.k (.v (.c (.int .i64 4)))))]) (.ret)) (.skip))) (.seq (.reg [.s (.mv 32 (.t 0)), .s (.fa 33 (.t 3) 0), .s (.load 34 false 1 (.t 33)), .s (.ia 35 .inst (.t 32) (.t 34)), .s (.load 36 true 5 (.t 35)), .s (.store 5 (.t 4) (.t 36)), .s (.mv 5 (.k (.v (.c (.int .i64 0)))))]) (.ret)))))⟩
def c_spec_Fetch : Fun := ⟨85, [], fun ts K => as2 ts fun t0 t1 => arC (pL .inst) t0 fun l => arG pWordT t1 fun pc => chk (l.length ≤ 2147483647) (K (.tup [.g ((fetchI l pc).1.tc []), .c (.int .i64 (fetchI l pc).2)]) [])⟩
theorem run_spec_Fetch (l : List (FT.Ty .inst)) (pc : Word) (hpre : l.length ≤ 2147483647) : runK [c_spec_l1In, c_spec_InsOk, c_spec_Try] (0) [] pf_spec_Fetch [tL false .inst l, tG (pc.tc [])] fun r o => r = .tup [.g ((fetchI l pc).1.tc []), .c (.int .i64 (fetchI l pc).2)] ∧ o = [] := by
  have w1 : IntKind.i64.wrap ((l.length : Int) - 1) = (l.length : Int) - 1 := wrap_id (by omega) (by omega)
  conv => whnf
  repeat' (first | (refine sel_i (fun h => ?_) (fun h => ?_) <;> conv => whnf) | (refine chk_c ?_ ?_ <;> conv => whnf) | (refine And.intro ?_ rfl) | (refine And.intro ?_ ?_ <;> conv => whnf))
  all_goals (try simp only [etaKey, etaWord, etaInst, etaMemory, w1, bne_iff_ne, ne_eq, bne_eq_false_iff_eq, beq_iff_eq, beq_eq_false_iff_ne, Bool.not_eq_true', Bool.not_eq_false', inR_t, inR_f, decide_eq_true_eq, decide_eq_false_iff_not] at *)
  all_goals first
    | (exfalso; omega)
    | (refine ⟨?_⟩; first | assumption | omega | decide)
    | (rw [fetchI_t (by assumption)]; rfl)
    | (rw [fetchI_b (by assumption) (by omega)]; rfl)
    | (rw [fetchI_i (by assumption) (by assumption)]; rfl)
    | (rw [fetchI_0 (by assumption) (by omega) (by assumption)]; rfl)
    | trace_state
theorem ok_spec_Fetch : FunOk Tryz.prog c_spec_Fetch := funOk (E := [c_spec_l1In, c_spec_InsOk, c_spec_Try]) (envOk_cons ok_spec_l1In (envOk_cons ok_spec_InsOk (envOk_cons ok_spec_Try (envOk_nil)))) mixd Tryz.func85 (pf := pf_spec_Fetch) (by kernel_rfl) fun ts K h => by
  obtain ⟨t0, t1, e0, h⟩ := as2_out h
  subst e0
  obtain ⟨l, e1, hq⟩ := arC_out (rd_l .inst) h
  clear h
  subst e1
  have h := hq
  clear hq
  obtain ⟨pc, e1, hq⟩ := arG_out rd_word h
  clear h
  subst e1
  have h := hq
  clear hq
  obtain ⟨hpre, h⟩ := chk_o h
  exact ⟨_, _, h, Nat.le_of_ble_eq_true (show Nat.ble 2 Tryz.f85.ntmps = true by kernel_rfl), _, run_spec_Fetch l pc hpre⟩

def pf_impl_Fetch : PF := ⟨[.c 4 true 5, .t 5], .seq (.reg [.s (.box 3 (.t 1)), .s (.alloc 4 [.int .i64 0, .int .i64 0, .int .i64 0, .int .i64 0, .int .i64 0]), .s (.mv 5 (.k (.v (.c (.int .i64 0)))))]) (.seq (.reg [.s (.load 7 true 6 (.t 3)), .s (.fa 8 (.t 3) 0), .s (.load 9 false 1 (.t 8)), .s (.call (some 10) 125 [(.t 7), (.t 9), (.k (.v (.c (.int .i64 4))))]), .s (.mv 6 (.t 10))]) (.seq (.blk 0 (.seq (.reg [.s (.mv 12 (.t 6)), .s (.bin 13 .neq (.t 12) (.k (.v (.c (.int .i64 0))))), .s (.mv 11 (.t 13))]) (.cond (.t 11) (.seq (.reg [.s (.build 14 [.int .i64 0, .int .i64 0, .int .i64 0, .int .i64 0, .int .i64 0] []), .s (.mv 15 (.t 6)), .s (.store 5 (.t 4) (.t 14)), .s (.mv 5 (.t 15))]) (.ret)) (.seq (.reg [.s (.fa 17 (.t 3) 0), .s (.load 18 false 1 (.t 17)), .s (.mv 19 (.t 0)), .s (.len 20 false (.t 19)), .s (.bin 21 .sub (.t 20) (.k (.v (.c (.int .i64 1))))), .s (.call (some 22) 36 [(.t 18), (.k (.v (.c (.int .i64 0)))), (.t 21)]), .s (.bnot 23 (.t 22)), .s (.mv 24 (.t 23)), .g 24 false (some 25) (.mv 25 (.t 0)), .g 24 false (some 26) (.fa 26 (.t 3) 0), .g 24 false (some 27) (.load 27 false 1 (.t 26)), .g 24 false (some 28) (.ia 28 .inst (.t 25) (.t 27)), .g 24 false (some 29) (.load 29 true 5 (.t 28)), .g 24 false (some 30) (.call (some 30) 61 [(.t 29)]), .g 24 false (some 31) (.bnot 31 (.t 30)), .s (.pick 32 (.t 24) (.k (.v (.c .tt))) (.t 31)), .s (.mv 16 (.t 32))]) (.cond (.t 16) (.seq (.reg [.s (.build 33 [.int .i64 0, .int .i64 0, .int .i64 0, .int .i64 0, .int .i64 0] []), .s (.store 5 (.t 4) (.t 33)), .s (.mv 5 (.k (.v (.c (.int .i64 4)))))]) (.ret)) (.skip)))))) (.seq (.reg [.s (.mv 34 (.t 0)), .s (.fa 35 (.t 3) 0), .s (.load 36 false 1 (.t 35)), .s (.ia 37 .inst (.t 34) (.t 36)), .s (.load 38 true 5 (.t 37)), .s (.store 5 (.t 4) (.t 38)), .s (.mv 5 (.k (.v (.c (.int .i64 0)))))]) (.ret))))⟩
def c_impl_Fetch : Fun := ⟨72, [], fun ts K => as2 ts fun t0 t1 => arC (pL .inst) t0 fun l => arG pWordT t1 fun pc => chk (l.length ≤ 2147483647) (K (.tup [.g ((fetchI l pc).1.tc []), .c (.int .i64 (fetchI l pc).2)]) [])⟩
theorem run_impl_Fetch (l : List (FT.Ty .inst)) (pc : Word) (hpre : l.length ≤ 2147483647) : runK [c_impl_in, c_impl_InsOk, c_impl_Try] (0) [] pf_impl_Fetch [tL false .inst l, tG (pc.tc [])] fun r o => r = .tup [.g ((fetchI l pc).1.tc []), .c (.int .i64 (fetchI l pc).2)] ∧ o = [] := by
  have w1 : IntKind.i64.wrap ((l.length : Int) - 1) = (l.length : Int) - 1 := wrap_id (by omega) (by omega)
  conv => whnf
  repeat' (first | (refine sel_i (fun h => ?_) (fun h => ?_) <;> conv => whnf) | (refine chk_c ?_ ?_ <;> conv => whnf) | (refine And.intro ?_ rfl) | (refine And.intro ?_ ?_ <;> conv => whnf))
  all_goals (try simp only [etaKey, etaWord, etaInst, etaMemory, w1, bne_iff_ne, ne_eq, bne_eq_false_iff_eq, beq_iff_eq, beq_eq_false_iff_ne, Bool.not_eq_true', Bool.not_eq_false', inR_t, inR_f, decide_eq_true_eq, decide_eq_false_iff_not] at *)
  all_goals first
    | (exfalso; omega)
    | (refine ⟨?_⟩; first | assumption | omega | decide)
    | (rw [fetchI_t (by assumption)]; rfl)
    | (rw [fetchI_b (by assumption) (by omega)]; rfl)
    | (rw [fetchI_i (by assumption) (by assumption)]; rfl)
    | (rw [fetchI_0 (by assumption) (by omega) (by assumption)]; rfl)
    | trace_state
theorem ok_impl_Fetch : FunOk Tryz.prog c_impl_Fetch := funOk (E := [c_impl_in, c_impl_InsOk, c_impl_Try]) (envOk_cons ok_impl_in (envOk_cons ok_impl_InsOk (envOk_cons ok_impl_Try (envOk_nil)))) mixd Tryz.func72 (pf := pf_impl_Fetch) (by kernel_rfl) fun ts K h => by
  obtain ⟨t0, t1, e0, h⟩ := as2_out h
  subst e0
  obtain ⟨l, e1, hq⟩ := arC_out (rd_l .inst) h
  clear h
  subst e1
  have h := hq
  clear hq
  obtain ⟨pc, e1, hq⟩ := arG_out rd_word h
  clear h
  subst e1
  have h := hq
  clear hq
  obtain ⟨hpre, h⟩ := chk_o h
  exact ⟨_, _, h, Nat.le_of_ble_eq_true (show Nat.ble 2 Tryz.f72.ntmps = true by kernel_rfl), _, run_impl_Fetch l pc hpre⟩

def pf_spec_l9Trap : PF := ⟨[.c 4 true 22], .seq (.reg [.s (.box 3 (.t 1)), .s (.alloc 4 [.int .i64 0, .int .i64 0, .int .i64 0, .ff, .int .i64 0, .int .i64 0, .int .i64 0, .int .i64 0, .int .i64 0, .ff, .int .i64 0, .int .i64 0, .int .i64 0, .int .i64 0, .int .i64 0, .int .i64 0, .ff, .int .i64 0, .int .i64 0, .int .i64 0, .int .i64 0, .int .i64 0])]) (.seq (.reg [.s (.mv 5 (.t 0)), .s (.load 6 true 6 (.t 3)), .s (.build 7 [.int .i64 0, .int .i64 0, .int .i64 0, .ff, .int .i64 0, .int .i64 0, .int .i64 0, .int .i64 0, .int .i64 0, .ff, .int .i64 0, .int .i64 0, .int .i64 0, .int .i64 0, .int .i64 0, .int .i64 0, .ff, .int .i64 0, .int .i64 0, .int .i64 0, .int .i64 0, .int .i64 0] [(0, 1, (.t 5)), (1, 1, (.k (.v (.c (.int .i64 (-1)))))), (8, 6, (.t 6)), (14, 1, (.k (.v (.c (.int .i64 (-1)))))), (21, 1, (.k (.v (.c (.int .i64 (-1))))))]), .s (.store 22 (.t 4) (.t 7))]) (.ret))⟩
def c_spec_l9Trap : Fun := ⟨86, [], fun ts K => as2 ts fun t0 t1 => arC (pI .i64) t0 fun c => arG pWordT t1 fun pc => K (tG ((trapE c pc).tc [])) []⟩
theorem run_spec_l9Trap (c : Int) (pc : Word) : runK [] (0) [] pf_spec_l9Trap [tI .i64 c, tG (pc.tc [])] fun r o => r = tG ((trapE c pc).tc []) ∧ o = [] := by
  conv => whnf
  repeat' (first
    | exact rfl
    | exact trivial
    | (refine sel_i (fun h => ?_) (fun h => ?_) <;> conv => whnf)
    | (refine chk_c ?_ ?_ <;> conv => whnf)
    | (refine And.intro ?_ ?_ <;> conv => whnf))
theorem ok_spec_l9Trap : FunOk Tryz.prog c_spec_l9Trap := funOk (E := []) (envOk_nil) mixd Tryz.func86 (pf := pf_spec_l9Trap) (by kernel_rfl) fun ts K h => by
  obtain ⟨t0, t1, e0, h⟩ := as2_out h
  subst e0
  obtain ⟨c, e1, hq⟩ := arC_out (rd_int .i64) h
  clear h
  subst e1
  have h := hq
  clear hq
  obtain ⟨pc, e1, hq⟩ := arG_out rd_word h
  clear h
  subst e1
  have h := hq
  clear hq
  exact ⟨_, _, h, Nat.le_of_ble_eq_true (show Nat.ble 2 Tryz.f86.ntmps = true by kernel_rfl), _, run_spec_l9Trap c pc⟩

def pf_impl_trapped : PF := ⟨[.c 4 true 22], .seq (.reg [.s (.box 3 (.t 1)), .s (.alloc 4 [.int .i64 0, .int .i64 0, .int .i64 0, .ff, .int .i64 0, .int .i64 0, .int .i64 0, .int .i64 0, .int .i64 0, .ff, .int .i64 0, .int .i64 0, .int .i64 0, .int .i64 0, .int .i64 0, .int .i64 0, .ff, .int .i64 0, .int .i64 0, .int .i64 0, .int .i64 0, .int .i64 0])]) (.seq (.reg [.s (.mv 5 (.t 0)), .s (.load 6 true 6 (.t 3)), .s (.build 7 [.int .i64 0, .int .i64 0, .int .i64 0, .ff, .int .i64 0, .int .i64 0, .int .i64 0, .int .i64 0, .int .i64 0, .ff, .int .i64 0, .int .i64 0, .int .i64 0, .int .i64 0, .int .i64 0, .int .i64 0, .ff, .int .i64 0, .int .i64 0, .int .i64 0, .int .i64 0, .int .i64 0] [(0, 1, (.t 5)), (1, 1, (.k (.v (.c (.int .i64 (-1)))))), (8, 6, (.t 6)), (14, 1, (.k (.v (.c (.int .i64 (-1)))))), (21, 1, (.k (.v (.c (.int .i64 (-1))))))]), .s (.store 22 (.t 4) (.t 7))]) (.ret))⟩
def c_impl_trapped : Fun := ⟨73, [], fun ts K => as2 ts fun t0 t1 => arC (pI .i64) t0 fun c => arG pWordT t1 fun pc => K (tG ((trapE c pc).tc [])) []⟩
theorem run_impl_trapped (c : Int) (pc : Word) : runK [] (0) [] pf_impl_trapped [tI .i64 c, tG (pc.tc [])] fun r o => r = tG ((trapE c pc).tc []) ∧ o = [] := by
  conv => whnf
  repeat' (first
    | exact rfl
    | exact trivial
    | (refine sel_i (fun h => ?_) (fun h => ?_) <;> conv => whnf)
    | (refine chk_c ?_ ?_ <;> conv => whnf)
    | (refine And.intro ?_ ?_ <;> conv => whnf))
theorem ok_impl_trapped : FunOk Tryz.prog c_impl_trapped := funOk (E := []) (envOk_nil) mixd Tryz.func73 (pf := pf_impl_trapped) (by kernel_rfl) fun ts K h => by
  obtain ⟨t0, t1, e0, h⟩ := as2_out h
  subst e0
  obtain ⟨c, e1, hq⟩ := arC_out (rd_int .i64) h
  clear h
  subst e1
  have h := hq
  clear hq
  obtain ⟨pc, e1, hq⟩ := arG_out rd_word h
  clear h
  subst e1
  have h := hq
  clear hq
  exact ⟨_, _, h, Nat.le_of_ble_eq_true (show Nat.ble 2 Tryz.f73.ntmps = true by kernel_rfl), _, run_impl_trapped c pc⟩

def pf_impl_made : PF := ⟨[.c 8 true 6], .seq (.reg [.s (.box 4 (.t 0)), .s (.box 5 (.t 1)), .s (.box 6 (.t 2)), .s (.box 7 (.t 3)), .s (.alloc 8 [.int .i64 0, .ff, .int .i64 0, .int .i64 0, .int .i64 0, .int .i64 0])]) (.seq (.seq (.reg [.s (.fa 9 (.t 4) 0), .s (.load 10 false 1 (.t 9))]) (.blk 0 (.seq (.reg [.s (.bin 12 .eql (.t 10) (.k (.v (.c (.int .i64 1))))), .s (.mv 11 (.t 12))]) (.cond (.t 11) (.seq (.reg [.s (.fa 13 (.t 4) 4), .s (.load 14 false 1 (.t 13)), .s (.call (some 15) 63 [(.t 14)]), .s (.store 6 (.t 8) (.t 15))]) (.ret)) (.seq (.reg [.s (.bin 17 .eql (.t 10) (.k (.v (.c (.int .i64 2))))), .s (.mv 16 (.t 17))]) (.cond (.t 16) (.seq (.reg [.s (.fa 18 (.t 5) 0), .s (.load 19 false 1 (.t 18)), .s (.fa 20 (.t 6) 0), .s (.load 21 false 1 (.t 20)), .s (.bin 22 .add (.t 19) (.t 21)), .s (.call (some 23) 63 [(.t 22)]), .s (.store 6 (.t 8) (.t 23))]) (.ret)) (.seq (.reg [.s (.bin 25 .eql (.t 10) (.k (.v (.c (.int .i64 3))))), .s (.mv 24 (.t 25))]) (.cond (.t 24) (.seq (.reg [.s (.load 26 true 6 (.t 5)), .s (.store 6 (.t 8) (.t 26))]) (.ret)) (.seq (.reg [.s (.bin 28 .eql (.t 10) (.k (.v (.c (.int .i64 4))))), .s (.mv 27 (.t 28))]) (.cond (.t 27) (.seq (.reg [.s (.load 29 true 6 (.t 5)), .s (.fa 30 (.t 6) 0), .s (.load 31 false 1 (.t 30)), .s (.call (some 32) 178 [(.t 29), (.t 31)]), .s (.store 6 (.t 8) (.t 32))]) (.ret)) (.seq (.reg [.s (.bin 34 .eql (.t 10) (.k (.v (.c (.int .i64 5))))), .s (.mv 33 (.t 34))]) (.cond (.t 33) (.seq (.reg [.s (.load 35 true 6 (.t 5)), .s (.fa 36 (.t 6) 0), .s (.load 37 false 1 (.t 36)), .s (.call (some 38) 179 [(.t 35), (.t 37)]), .s (.store 6 (.t 8) (.t 38))]) (.ret)) (.seq (.reg [.s (.bin 40 .eql (.t 10) (.k (.v (.c (.int .i64 6))))), .s (.mv 39 (.t 40))]) (.cond (.t 39) (.seq (.reg [.s (.load 41 true 6 (.t 5)), .s (.fa 42 (.t 5) 0), .s (.load 43 false 1 (.t 42)), .s (.fa 44 (.t 6) 0), .s (.load 45 false 1 (.t 44)), .s (.bin 46 .add (.t 43) (.t 45)), .s (.fa 47 (.t 4) 4), .s (.load 48 false 1 (.t 47)), .s (.bin 49 .add (.t 46) (.t 48)), .s (.call (some 50) 126 [(.t 41), (.t 49)]), .s (.store 6 (.t 8) (.t 50))]) (.ret)) (.seq (.reg [.s (.bin 52 .eql (.t 10) (.k (.v (.c (.int .i64 7))))), .s (.mv 51 (.t 52))]) (.cond (.t 51) (.seq (.reg [.s (.load 53 true 6 (.t 5)), .s (.load 54 true 6 (.t 6)), .s (.call (some 55) 180 [(.t 53), (.t 54)]), .s (.store 6 (.t 8) (.t 55))]) (.ret)) (.seq (.reg [.s (.bin 57 .eql (.t 10) (.k (.v (.c (.int .i64 8))))), .s (.mv 56 (.t 57))]) (.cond (.t 56) (.seq (.reg [.s (.load 58 true 6 (.t 5)), .s (.load 59 true 6 (.t 6)), .s (.call (some 60) 181 [(.t 58), (.t 59)]), .s (.store 6 (.t 8) (.t 60))]) (.ret)) (.seq (.reg [.s (.bin 62 .eql (.t 10) (.k (.v (.c (.int .i64 9))))), .s (.mv 61 (.t 62))]) (.cond (.t 61) (.seq (.seq (.reg [.s (.fa 63 (.t 5) 1), .s (.load 64 false 1 (.t 63))]) (.cond (.t 64) (.seq (.reg [.s (.call (some 65) 63 [(.k (.v (.c (.int .i64 1))))]), .s (.store 6 (.t 8) (.t 65))]) (.ret)) (.skip))) (.seq (.reg [.s (.call (some 66) 63 [(.k (.v (.c (.int .i64 0))))]), .s (.store 6 (.t 8) (.t 66))]) (.ret))) (.skip))))))))))))))))))))) (.seq (.reg [.s (.load 67 true 6 (.t 7)), .s (.store 6 (.t 8) (.t 67))]) (.ret)))⟩
def c_impl_made : Fun := ⟨151, [], fun ts K => as4 ts fun t0 t1 t2 t3 => arG pInstT t0 fun x => arG pWordT t1 fun a => arG pWordT t2 fun b => arG pWordT t3 fun got => K (tG ((madeW x a b got).tc [])) []⟩
theorem run_impl_made (x : Inst) (a : Word) (b : Word) (got : Word) : runK [c_impl_Plain, c_impl_Point, c_impl_Weaken, c_impl_Narrow, c_impl_SealBy, c_impl_OpenBy] (0) [] pf_impl_made [tG (x.tc []), tG (a.tc []), tG (b.tc []), tG (got.tc [])] fun r o => r = tG ((madeW x a b got).tc []) ∧ o = [] := by
  have w1 := True.intro
  conv => whnf
  repeat' (first | (refine sel_i (fun h => ?_) (fun h => ?_) <;> conv => whnf) | (refine chk_c ?_ ?_ <;> conv => whnf) | (refine And.intro ?_ rfl) | (refine And.intro ?_ ?_ <;> conv => whnf))
  all_goals (try simp only [etaKey, etaWord, etaInst, etaMemory, w1, bne_iff_ne, ne_eq, bne_eq_false_iff_eq, beq_iff_eq, beq_eq_false_iff_ne, Bool.not_eq_true', Bool.not_eq_false', inR_t, inR_f, decide_eq_true_eq, decide_eq_false_iff_not] at *)
  all_goals first
    | (exfalso; omega)
    | (unfold madeW; simp only [*, if_true, if_false, Int.reduceEq, Bool.false_eq_true]; rfl)
    | trace_state
theorem ok_impl_made : FunOk Tryz.prog c_impl_made := funOk (E := [c_impl_Plain, c_impl_Point, c_impl_Weaken, c_impl_Narrow, c_impl_SealBy, c_impl_OpenBy]) (envOk_cons ok_impl_Plain (envOk_cons ok_impl_Point (envOk_cons ok_impl_Weaken (envOk_cons ok_impl_Narrow (envOk_cons ok_impl_SealBy (envOk_cons ok_impl_OpenBy (envOk_nil))))))) mixd Tryz.func151 (pf := pf_impl_made) (by kernel_rfl) fun ts K h => by
  obtain ⟨t0, t1, t2, t3, e0, h⟩ := as4_out h
  subst e0
  obtain ⟨x, e1, hq⟩ := arG_out rd_inst h
  clear h
  subst e1
  have h := hq
  clear hq
  obtain ⟨a, e1, hq⟩ := arG_out rd_word h
  clear h
  subst e1
  have h := hq
  clear hq
  obtain ⟨b, e1, hq⟩ := arG_out rd_word h
  clear h
  subst e1
  have h := hq
  clear hq
  obtain ⟨got, e1, hq⟩ := arG_out rd_word h
  clear h
  subst e1
  have h := hq
  clear hq
  exact ⟨_, _, h, Nat.le_of_ble_eq_true (show Nat.ble 4 Tryz.f151.ntmps = true by kernel_rfl), _, run_impl_made x a b got⟩

def pf_spec_l9Value : PF := ⟨[.c 8 true 6], .seq (.reg [.s (.box 4 (.t 0)), .s (.box 5 (.t 1)), .s (.box 6 (.t 2)), .s (.box 7 (.t 3)), .s (.alloc 8 [.int .i64 0, .ff, .int .i64 0, .int .i64 0, .int .i64 0, .int .i64 0])]) (.seq (.seq (.reg [.s (.fa 9 (.t 4) 0), .s (.load 10 false 1 (.t 9))]) (.blk 0 (.seq (.reg [.s (.bin 12 .eql (.t 10) (.k (.v (.c (.int .i64 1))))), .s (.mv 11 (.t 12))]) (.cond (.t 11) (.seq (.reg [.s (.fa 13 (.t 4) 4), .s (.load 14 false 1 (.t 13)), .s (.call (some 15) 99 [(.t 14)]), .s (.store 6 (.t 8) (.t 15))]) (.ret)) (.seq (.reg [.s (.bin 17 .eql (.t 10) (.k (.v (.c (.int .i64 2))))), .s (.mv 16 (.t 17))]) (.cond (.t 16) (.seq (.reg [.s (.fa 18 (.t 5) 0), .s (.load 19 false 1 (.t 18)), .s (.fa 20 (.t 6) 0), .s (.load 21 false 1 (.t 20)), .s (.bin 22 .add (.t 19) (.t 21)), .s (.call (some 23) 99 [(.t 22)]), .s (.store 6 (.t 8) (.t 23))]) (.ret)) (.seq (.reg [.s (.bin 25 .eql (.t 10) (.k (.v (.c (.int .i64 3))))), .s (.mv 24 (.t 25))]) (.cond (.t 24) (.seq (.reg [.s (.load 26 true 6 (.t 5)), .s (.store 6 (.t 8) (.t 26))]) (.ret)) (.seq (.reg [.s (.bin 28 .eql (.t 10) (.k (.v (.c (.int .i64 4))))), .s (.mv 27 (.t 28))]) (.cond (.t 27) (.seq (.reg [.s (.load 29 true 6 (.t 5)), .s (.fa 30 (.t 6) 0), .s (.load 31 false 1 (.t 30)), .s (.call (some 32) 206 [(.t 29), (.t 31)]), .s (.store 6 (.t 8) (.t 32))]) (.ret)) (.seq (.reg [.s (.bin 34 .eql (.t 10) (.k (.v (.c (.int .i64 5))))), .s (.mv 33 (.t 34))]) (.cond (.t 33) (.seq (.reg [.s (.load 35 true 6 (.t 5)), .s (.fa 36 (.t 6) 0), .s (.load 37 false 1 (.t 36)), .s (.call (some 38) 207 [(.t 35), (.t 37)]), .s (.store 6 (.t 8) (.t 38))]) (.ret)) (.seq (.reg [.s (.bin 40 .eql (.t 10) (.k (.v (.c (.int .i64 6))))), .s (.mv 39 (.t 40))]) (.cond (.t 39) (.seq (.reg [.s (.load 41 true 6 (.t 5)), .s (.fa 42 (.t 5) 0), .s (.load 43 false 1 (.t 42)), .s (.fa 44 (.t 6) 0), .s (.load 45 false 1 (.t 44)), .s (.bin 46 .add (.t 43) (.t 45)), .s (.fa 47 (.t 4) 4), .s (.load 48 false 1 (.t 47)), .s (.bin 49 .add (.t 46) (.t 48)), .s (.call (some 50) 137 [(.t 41), (.t 49)]), .s (.store 6 (.t 8) (.t 50))]) (.ret)) (.seq (.reg [.s (.bin 52 .eql (.t 10) (.k (.v (.c (.int .i64 7))))), .s (.mv 51 (.t 52))]) (.cond (.t 51) (.seq (.reg [.s (.load 53 true 6 (.t 5)), .s (.load 54 true 6 (.t 6)), .s (.call (some 55) 208 [(.t 53), (.t 54)]), .s (.store 6 (.t 8) (.t 55))]) (.ret)) (.seq (.reg [.s (.bin 57 .eql (.t 10) (.k (.v (.c (.int .i64 8))))), .s (.mv 56 (.t 57))]) (.cond (.t 56) (.seq (.reg [.s (.load 58 true 6 (.t 5)), .s (.load 59 true 6 (.t 6)), .s (.call (some 60) 209 [(.t 58), (.t 59)]), .s (.store 6 (.t 8) (.t 60))]) (.ret)) (.seq (.reg [.s (.bin 62 .eql (.t 10) (.k (.v (.c (.int .i64 10))))), .s (.mv 61 (.t 62))]) (.cond (.t 61) (.seq (.reg [.s (.load 63 true 6 (.t 7)), .s (.store 6 (.t 8) (.t 63))]) (.ret)) (.skip))))))))))))))))))))) (.seq (.seq (.reg [.s (.fa 64 (.t 5) 1), .s (.load 65 false 1 (.t 64))]) (.cond (.t 65) (.seq (.reg [.s (.call (some 66) 99 [(.k (.v (.c (.int .i64 1))))]), .s (.store 6 (.t 8) (.t 66))]) (.ret)) (.skip))) (.seq (.reg [.s (.call (some 67) 99 [(.k (.v (.c (.int .i64 0))))]), .s (.store 6 (.t 8) (.t 67))]) (.ret))))⟩
def c_spec_l9Value : Fun := ⟨176, [], fun ts K => as4 ts fun t0 t1 t2 t3 => arG pInstT t0 fun x => arG pWordT t1 fun a => arG pWordT t2 fun b => arG pWordT t3 fun got => chk (1 ≤ x.op ∧ x.op ≤ 10) (K (tG ((madeW x a b got).tc [])) [])⟩
theorem run_spec_l9Value (x : Inst) (a : Word) (b : Word) (got : Word) (hpre : 1 ≤ x.op ∧ x.op ≤ 10) : runK [c_spec_Plain, c_spec_Point, c_spec_Weaken, c_spec_Narrow, c_spec_SealBy, c_spec_OpenBy] (0) [] pf_spec_l9Value [tG (x.tc []), tG (a.tc []), tG (b.tc []), tG (got.tc [])] fun r o => r = tG ((madeW x a b got).tc []) ∧ o = [] := by
  have w1 := True.intro
  conv => whnf
  repeat' (first | (refine sel_i (fun h => ?_) (fun h => ?_) <;> conv => whnf) | (refine chk_c ?_ ?_ <;> conv => whnf) | (refine And.intro ?_ rfl) | (refine And.intro ?_ ?_ <;> conv => whnf))
  all_goals (try simp only [etaKey, etaWord, etaInst, etaMemory, w1, bne_iff_ne, ne_eq, bne_eq_false_iff_eq, beq_iff_eq, beq_eq_false_iff_ne, Bool.not_eq_true', Bool.not_eq_false', inR_t, inR_f, decide_eq_true_eq, decide_eq_false_iff_not] at *)
  all_goals first
    | (exfalso; omega)
    | (have e9 : x.op = 9 := by omega
       unfold madeW; simp only [e9, *, if_true, if_false, Int.reduceEq, Bool.false_eq_true]; rfl)
    | (unfold madeW; simp only [*, if_true, if_false, Int.reduceEq, Bool.false_eq_true]; rfl)
    | trace_state
theorem ok_spec_l9Value : FunOk Tryz.prog c_spec_l9Value := funOk (E := [c_spec_Plain, c_spec_Point, c_spec_Weaken, c_spec_Narrow, c_spec_SealBy, c_spec_OpenBy]) (envOk_cons ok_spec_Plain (envOk_cons ok_spec_Point (envOk_cons ok_spec_Weaken (envOk_cons ok_spec_Narrow (envOk_cons ok_spec_SealBy (envOk_cons ok_spec_OpenBy (envOk_nil))))))) mixd Tryz.func176 (pf := pf_spec_l9Value) (by kernel_rfl) fun ts K h => by
  obtain ⟨t0, t1, t2, t3, e0, h⟩ := as4_out h
  subst e0
  obtain ⟨x, e1, hq⟩ := arG_out rd_inst h
  clear h
  subst e1
  have h := hq
  clear hq
  obtain ⟨a, e1, hq⟩ := arG_out rd_word h
  clear h
  subst e1
  have h := hq
  clear hq
  obtain ⟨b, e1, hq⟩ := arG_out rd_word h
  clear h
  subst e1
  have h := hq
  clear hq
  obtain ⟨got, e1, hq⟩ := arG_out rd_word h
  clear h
  subst e1
  have h := hq
  clear hq
  obtain ⟨hpre, h⟩ := chk_o h
  exact ⟨_, _, h, Nat.le_of_ble_eq_true (show Nat.ble 4 Tryz.f176.ntmps = true by kernel_rfl), _, run_spec_l9Value x a b got hpre⟩

theorem maskI_out {op : Int} (h : ¬ (1 ≤ op ∧ op ≤ 15)) : maskI op = 0 := by unfold maskI; rw [if_neg (by rw [inR_t]; exact h)]
theorem sets_op {x : Inst} (h : 0 ≤ setsI x) : 1 ≤ x.op ∧ x.op ≤ 15 := by
  by_cases e : 1 ≤ x.op ∧ x.op ≤ 15
  · exact e
  · unfold setsI at h
    rw [maskI_out e, if_pos (by decide)] at h
    omega
theorem setsI_yes {x : Inst} (h : hasC x.op 82 = true) : setsI x = x.r := by
  rw [hasR] at h; unfold setsI; rw [if_neg (by simpa using h)]
theorem setsI_no {x : Inst} (h : hasC x.op 82 = false) : setsI x = -1 := by
  rw [hasR] at h; unfold setsI; rw [if_pos (by simpa using h)]
theorem workE_pos {x : Inst} {pc a b got : Word} (h1 : ¬ x.op = 11) (h2 : ¬ x.op = 12) (h3 : ¬ x.op = 13) (h4 : ¬ x.op = 14) (h5 : ¬ x.op = 15) (h : 0 ≤ setsI x) :
    workE x pc a b got = ⟨0, setsI x, madeW x a b got, nextW pc, -1, zW, -1⟩ := by
  unfold workE
  rw [if_neg h1, if_neg h2, if_neg h3, if_neg h4, if_neg h5]
  cases hb : hasC x.op 82 with
  | true => rw [setsI_yes hb] at h ⊢; rw [if_pos rfl, if_pos h]
  | false => rw [setsI_no hb] at h; omega
theorem workE_neg {x : Inst} {pc a b got : Word} (h1 : ¬ x.op = 11) (h2 : ¬ x.op = 12) (h3 : ¬ x.op = 13) (h4 : ¬ x.op = 14) (h5 : ¬ x.op = 15) (h : ¬ 0 ≤ setsI x) :
    workE x pc a b got = ⟨0, setsI x, zW, nextW pc, -1, zW, -1⟩ := by
  unfold workE
  rw [if_neg h1, if_neg h2, if_neg h3, if_neg h4, if_neg h5]
  cases hb : hasC x.op 82 with
  | true => rw [setsI_yes hb] at h ⊢; rw [if_pos rfl, if_neg h]
  | false => rw [setsI_no hb]; rfl

def pf_impl_Work : PF := ⟨[.c 10 true 22], .seq (.reg [.s (.box 5 (.t 0)), .s (.box 6 (.t 1)), .s (.box 7 (.t 2)), .s (.box 8 (.t 3)), .s (.box 9 (.t 4)), .s (.alloc 10 [.int .i64 0, .int .i64 0, .int .i64 0, .ff, .int .i64 0, .int .i64 0, .int .i64 0, .int .i64 0, .int .i64 0, .ff, .int .i64 0, .int .i64 0, .int .i64 0, .int .i64 0, .int .i64 0, .int .i64 0, .ff, .int .i64 0, .int .i64 0, .int .i64 0, .int .i64 0, .int .i64 0])]) (.seq (.reg [.s (.load 12 true 6 (.t 6)), .s (.fa 13 (.t 6) 0), .s (.load 14 false 1 (.t 13)), .s (.bin 15 .add (.t 14) (.k (.v (.c (.int .i64 1))))), .s (.call (some 16) 126 [(.t 12), (.t 15)]), .s (.build 17 [.int .i64 0, .int .i64 0, .int .i64 0, .ff, .int .i64 0, .int .i64 0, .int .i64 0, .int .i64 0, .int .i64 0, .ff, .int .i64 0, .int .i64 0, .int .i64 0, .int .i64 0, .int .i64 0, .int .i64 0, .ff, .int .i64 0, .int .i64 0, .int .i64 0, .int .i64 0, .int .i64 0] [(1, 1, (.k (.v (.c (.int .i64 (-1)))))), (8, 6, (.t 16)), (14, 1, (.k (.v (.c (.int .i64 (-1)))))), (21, 1, (.k (.v (.c (.int .i64 (-1))))))]), .s (.alloc 11 [.int .i64 0, .int .i64 0, .int .i64 0, .ff, .int .i64 0, .int .i64 0, .int .i64 0, .int .i64 0, .int .i64 0, .ff, .int .i64 0, .int .i64 0, .int .i64 0, .int .i64 0, .int .i64 0, .int .i64 0, .ff, .int .i64 0, .int .i64 0, .int .i64 0, .int .i64 0, .int .i64 0]), .s (.store 22 (.t 11) (.t 17))]) (.seq (.seq (.reg [.s (.fa 18 (.t 5) 0), .s (.load 19 false 1 (.t 18))]) (.blk 0 (.seq (.reg [.s (.bin 35 .eql (.t 19) (.k (.v (.c (.int .i64 11))))), .s (.mv 34 (.t 35))]) (.cond (.t 34) (.rgd [] [.s (.fa 36 (.t 7) 0), .s (.load 37 false 1 (.t 36)), .s (.fa 38 (.t 5) 4), .s (.load 39 false 1 (.t 38)), .s (.bin 40 .add (.t 37) (.t 39)), .s (.load 41 true 6 (.t 8)), .s (.fa 42 (.t 11) 14), .s (.store 1 (.t 42) (.t 40)), .s (.fa 43 (.t 11) 15), .s (.store 6 (.t 43) (.t 41))] (.tk 0 (.tk 1 (.tk 2 (.tk 3 (.tk 4 (.tk 6 (.alt 5 false (.one 7 true (.tk 8 (.one 9 true (.done (some [6, 10, 11]))))) (.alt 7 true (.one 5 false (.tk 8 (.one 9 true (.done (some [6, 10, 11]))))) (.nil)))))))))) (.seq (.reg [.s (.bin 45 .eql (.t 19) (.k (.v (.c (.int .i64 12))))), .s (.mv 44 (.t 45))]) (.cond (.t 44) (.seq (.reg [.s (.load 46 true 6 (.t 7)), .s (.fa 47 (.t 7) 0), .s (.load 48 false 1 (.t 47)), .s (.call (some 49) 125 [(.t 46), (.t 48), (.k (.v (.c (.int .i64 4))))]), .s (.fa 50 (.t 11) 0), .s (.store 1 (.t 50) (.t 49))]) (.rgd [] [.s (.fa 51 (.t 5) 1), .s (.load 52 false 1 (.t 51)), .s (.fa 53 (.t 11) 8), .s (.load 54 true 6 (.t 53)), .s (.load 55 true 6 (.t 7)), .s (.fa 56 (.t 11) 1), .s (.store 1 (.t 56) (.t 52)), .s (.fa 57 (.t 11) 2), .s (.store 6 (.t 57) (.t 54)), .s (.fa 58 (.t 11) 8), .s (.store 6 (.t 58) (.t 55))] (.tk 0 (.tk 1 (.tk 2 (.tk 3 (.tk 5 (.alt 4 false (.one 6 true (.tk 7 (.one 8 true (.tk 9 (.one 10 true (.done (some [6, 10, 11]))))))) (.alt 6 true (.tk 7 (.alt 4 false (.one 8 true (.tk 9 (.one 10 true (.done (some [6, 10, 11]))))) (.alt 8 true (.one 4 false (.tk 9 (.one 10 true (.done (some [6, 10, 11]))))) (.nil)))) (.nil)))))))))) (.seq (.reg [.s (.bin 60 .eql (.t 19) (.k (.v (.c (.int .i64 13))))), .s (.mv 59 (.t 60))]) (.cond (.t 59) (.seq (.reg [.s (.fa 61 (.t 7) 0), .s (.load 62 false 1 (.t 61)), .s (.bin 63 .eql (.t 62) (.k (.v (.c (.int .i64 0)))))]) (.cond (.t 63) (.reg [.s (.load 64 true 6 (.t 6)), .s (.fa 65 (.t 6) 0), .s (.load 66 false 1 (.t 65)), .s (.fa 67 (.t 5) 4), .s (.load 68 false 1 (.t 67)), .s (.bin 69 .add (.t 66) (.t 68)), .s (.call (some 70) 126 [(.t 64), (.t 69)]), .s (.fa 71 (.t 11) 8), .s (.store 6 (.t 71) (.t 70))]) (.skip))) (.seq (.reg [.s (.bin 73 .eql (.t 19) (.k (.v (.c (.int .i64 14))))), .s (.mv 72 (.t 73))]) (.cond (.t 72) (.seq (.reg [.s (.load 74 true 6 (.t 7)), .s (.fa 75 (.t 7) 0), .s (.load 76 false 1 (.t 75)), .s (.call (some 77) 125 [(.t 74), (.t 76), (.k (.v (.c (.int .i64 32))))]), .s (.fa 78 (.t 11) 0), .s (.store 1 (.t 78) (.t 77))]) (.reg [.s (.fa 79 (.t 7) 2), .s (.fa 80 (.t 79) 0), .s (.load 81 false 1 (.t 80)), .s (.fa 82 (.t 11) 21), .s (.store 1 (.t 82) (.t 81))])) (.seq (.reg [.s (.bin 84 .eql (.t 19) (.k (.v (.c (.int .i64 15))))), .s (.mv 83 (.t 84))]) (.cond (.t 83) (.reg [.s (.fa 85 (.t 11) 0), .s (.store 1 (.t 85) (.k (.v (.c (.int .i64 5)))))]) (.seq (.reg [.s (.load 20 true 5 (.t 5)), .s (.call (some 21) 109 [(.t 20), (.k (.v (.c (.int .u8 82))))])]) (.cond (.t 21) (.seq (.reg [.s (.fa 22 (.t 5) 1), .s (.load 23 false 1 (.t 22)), .s (.fa 24 (.t 11) 1), .s (.store 1 (.t 24) (.t 23))]) (.seq (.reg [.s (.fa 25 (.t 5) 1), .s (.load 26 false 1 (.t 25)), .s (.bin 27 .geq (.t 26) (.k (.v (.c (.int .i64 0)))))]) (.cond (.t 27) (.reg [.s (.load 28 true 5 (.t 5)), .s (.load 29 true 6 (.t 7)), .s (.load 30 true 6 (.t 8)), .s (.load 31 true 6 (.t 9)), .s (.call (some 32) 151 [(.t 28), (.t 29), (.t 30), (.t 31)]), .s (.fa 33 (.t 11) 2), .s (.store 6 (.t 33) (.t 32))]) (.skip)))) (.skip))))))))))))))) (.seq (.seq (.reg [.s (.fa 86 (.t 11) 0), .s (.load 87 false 1 (.t 86)), .s (.bin 88 .neq (.t 87) (.k (.v (.c (.int .i64 0)))))]) (.cond (.t 88) (.seq (.reg [.s (.fa 89 (.t 11) 0), .s (.load 90 false 1 (.t 89)), .s (.load 91 true 6 (.t 6)), .s (.call (some 92) 73 [(.t 90), (.t 91)]), .s (.store 22 (.t 10) (.t 92))]) (.ret)) (.skip))) (.seq (.reg [.s (.load 93 true 22 (.t 11)), .s (.store 22 (.t 10) (.t 93))]) (.ret)))))⟩
def c_impl_Work : Fun := ⟨105, [], fun ts K => as5 ts fun t0 t1 t2 t3 t4 => arG pInstT t0 fun x => arG pWordT t1 fun pc => arG pWordT t2 fun a => arG pWordT t3 fun b => arG pWordT t4 fun got => K (tG ((workE x pc a b got).tc [])) []⟩
theorem run_impl_Work (x : Inst) (pc : Word) (a : Word) (b : Word) (got : Word) : runK [c_impl_trapped, c_impl_hasPart, c_impl_Try, c_impl_Point, c_impl_made] (0) [] pf_impl_Work [tG (x.tc []), tG (pc.tc []), tG (a.tc []), tG (b.tc []), tG (got.tc [])] fun r o => r = tG ((workE x pc a b got).tc []) ∧ o = [] := by
  have w1 := True.intro
  conv => whnf
  repeat' (first | (refine sel_i (fun h => ?_) (fun h => ?_) <;> conv => whnf) | (refine chk_c ?_ ?_ <;> conv => whnf) | (refine And.intro ?_ rfl) | (refine And.intro ?_ ?_ <;> conv => whnf))
  all_goals (try simp only [etaKey, etaWord, etaInst, etaEff, bne_iff_ne, ne_eq, bne_eq_false_iff_eq, beq_iff_eq, beq_eq_false_iff_ne, Bool.not_eq_true', Bool.not_eq_false', decide_eq_true_eq, decide_eq_false_iff_not, ge_iff_le] at *)
  all_goals first
    | (exact absurd trivial h)
    | (exfalso; omega)
    | (refine ⟨?_⟩; first | assumption | omega | decide)
    | (unfold workE nextW; simp only [*, ge_iff_le, ne_eq, not_true_eq_false, not_false_eq_true, if_true, if_false, Int.reduceEq, Bool.false_eq_true]; rfl)
    | trace_state
theorem ok_impl_Work : FunOk Tryz.prog c_impl_Work := funOk (E := [c_impl_trapped, c_impl_hasPart, c_impl_Try, c_impl_Point, c_impl_made]) (envOk_cons ok_impl_trapped (envOk_cons ok_impl_hasPart (envOk_cons ok_impl_Try (envOk_cons ok_impl_Point (envOk_cons ok_impl_made (envOk_nil)))))) mixd Tryz.func105 (pf := pf_impl_Work) (by kernel_rfl) fun ts K h => by
  obtain ⟨t0, t1, t2, t3, t4, e0, h⟩ := as5_out h
  subst e0
  obtain ⟨x, e1, hq⟩ := arG_out rd_inst h
  clear h
  subst e1
  have h := hq
  clear hq
  obtain ⟨pc, e1, hq⟩ := arG_out rd_word h
  clear h
  subst e1
  have h := hq
  clear hq
  obtain ⟨a, e1, hq⟩ := arG_out rd_word h
  clear h
  subst e1
  have h := hq
  clear hq
  obtain ⟨b, e1, hq⟩ := arG_out rd_word h
  clear h
  subst e1
  have h := hq
  clear hq
  obtain ⟨got, e1, hq⟩ := arG_out rd_word h
  clear h
  subst e1
  have h := hq
  clear hq
  exact ⟨_, _, h, Nat.le_of_ble_eq_true (show Nat.ble 5 Tryz.f105.ntmps = true by kernel_rfl), _, run_impl_Work x pc a b got⟩

def pf_spec_Work : PF := ⟨[.c 10 true 22], .seq (.reg [.s (.box 5 (.t 0)), .s (.box 6 (.t 1)), .s (.box 7 (.t 2)), .s (.box 8 (.t 3)), .s (.box 9 (.t 4)), .s (.alloc 10 [.int .i64 0, .int .i64 0, .int .i64 0, .ff, .int .i64 0, .int .i64 0, .int .i64 0, .int .i64 0, .int .i64 0, .ff, .int .i64 0, .int .i64 0, .int .i64 0, .int .i64 0, .int .i64 0, .int .i64 0, .ff, .int .i64 0, .int .i64 0, .int .i64 0, .int .i64 0, .int .i64 0])]) (.seq (.reg [.s (.load 13 true 6 (.t 6)), .s (.fa 14 (.t 6) 0), .s (.load 15 false 1 (.t 14)), .s (.bin 16 .add (.t 15) (.k (.v (.c (.int .i64 1))))), .s (.call (some 17) 137 [(.t 13), (.t 16)]), .s (.build 18 [.int .i64 0, .int .i64 0, .int .i64 0, .ff, .int .i64 0, .int .i64 0, .int .i64 0, .int .i64 0, .int .i64 0, .ff, .int .i64 0, .int .i64 0, .int .i64 0, .int .i64 0, .int .i64 0, .int .i64 0, .ff, .int .i64 0, .int .i64 0, .int .i64 0, .int .i64 0, .int .i64 0] [(1, 1, (.k (.v (.c (.int .i64 (-1)))))), (8, 6, (.t 17)), (14, 1, (.k (.v (.c (.int .i64 (-1)))))), (21, 1, (.k (.v (.c (.int .i64 (-1))))))]), .s (.alloc 11 [.int .i64 0, .int .i64 0, .int .i64 0, .ff, .int .i64 0, .int .i64 0, .int .i64 0, .int .i64 0, .int .i64 0, .ff, .int .i64 0, .int .i64 0, .int .i64 0, .int .i64 0, .int .i64 0, .int .i64 0, .ff, .int .i64 0, .int .i64 0, .int .i64 0, .int .i64 0, .int .i64 0]), .s (.store 22 (.t 11) (.t 18))]) (.seq (.reg [.s (.mv 12 (.k (.v (.c (.int .i64 0)))))]) (.seq (.seq (.reg [.s (.fa 19 (.t 5) 0), .s (.load 20 false 1 (.t 19))]) (.blk 0 (.seq (.reg [.s (.bin 34 .eql (.t 20) (.k (.v (.c (.int .i64 11))))), .s (.mv 33 (.t 34))]) (.cond (.t 33) (.seq (.reg [.s (.fa 35 (.t 7) 0), .s (.load 36 false 1 (.t 35)), .s (.fa 37 (.t 5) 4), .s (.load 38 false 1 (.t 37)), .s (.bin 39 .add (.t 36) (.t 38)), .s (.fa 40 (.t 11) 14), .s (.store 1 (.t 40) (.t 39))]) (.seq (.reg [.s (.load 41 true 6 (.t 8)), .s (.fa 42 (.t 11) 15), .s (.store 6 (.t 42) (.t 41))]) (.seq (.reg [.s (.load 43 true 22 (.t 11)), .s (.store 22 (.t 10) (.t 43))]) (.ret)))) (.seq (.reg [.s (.bin 45 .eql (.t 20) (.k (.v (.c (.int .i64 12))))), .s (.mv 44 (.t 45))]) (.cond (.t 44) (.seq (.reg [.s (.load 46 true 6 (.t 7)), .s (.fa 47 (.t 7) 0), .s (.load 48 false 1 (.t 47)), .s (.call (some 49) 136 [(.t 46), (.t 48), (.k (.v (.c (.int .i64 4))))]), .s (.mv 12 (.t 49))]) (.seq (.reg [.s (.fa 50 (.t 5) 1), .s (.load 51 false 1 (.t 50)), .s (.fa 52 (.t 11) 1), .s (.store 1 (.t 52) (.t 51))]) (.seq (.reg [.s (.fa 53 (.t 11) 8), .s (.load 54 true 6 (.t 53)), .s (.fa 55 (.t 11) 2), .s (.store 6 (.t 55) (.t 54))]) (.reg [.s (.load 56 true 6 (.t 7)), .s (.fa 57 (.t 11) 8), .s (.store 6 (.t 57) (.t 56))])))) (.seq (.reg [.s (.bin 59 .eql (.t 20) (.k (.v (.c (.int .i64 13))))), .s (.mv 58 (.t 59))]) (.cond (.t 58) (.seq (.seq (.reg [.s (.fa 60 (.t 7) 0), .s (.load 61 false 1 (.t 60)), .s (.bin 62 .eql (.t 61) (.k (.v (.c (.int .i64 0)))))]) (.cond (.t 62) (.reg [.s (.load 63 true 6 (.t 6)), .s (.fa 64 (.t 6) 0), .s (.load 65 false 1 (.t 64)), .s (.fa 66 (.t 5) 4), .s (.load 67 false 1 (.t 66)), .s (.bin 68 .add (.t 65) (.t 67)), .s (.call (some 69) 137 [(.t 63), (.t 68)]), .s (.fa 70 (.t 11) 8), .s (.store 6 (.t 70) (.t 69))]) (.skip))) (.seq (.reg [.s (.load 71 true 22 (.t 11)), .s (.store 22 (.t 10) (.t 71))]) (.ret))) (.seq (.reg [.s (.bin 73 .eql (.t 20) (.k (.v (.c (.int .i64 14))))), .s (.mv 72 (.t 73))]) (.cond (.t 72) (.seq (.reg [.s (.load 74 true 6 (.t 7)), .s (.fa 75 (.t 7) 0), .s (.load 76 false 1 (.t 75)), .s (.call (some 77) 136 [(.t 74), (.t 76), (.k (.v (.c (.int .i64 32))))]), .s (.mv 12 (.t 77))]) (.reg [.s (.fa 78 (.t 7) 2), .s (.fa 79 (.t 78) 0), .s (.load 80 false 1 (.t 79)), .s (.fa 81 (.t 11) 21), .s (.store 1 (.t 81) (.t 80))])) (.seq (.reg [.s (.bin 83 .eql (.t 20) (.k (.v (.c (.int .i64 15))))), .s (.mv 82 (.t 83))]) (.cond (.t 82) (.reg [.s (.mv 12 (.k (.v (.c (.int .i64 5)))))]) (.seq (.reg [.s (.load 21 true 5 (.t 5)), .s (.call (some 22) 175 [(.t 21)]), .s (.fa 23 (.t 11) 1), .s (.store 1 (.t 23) (.t 22))]) (.seq (.reg [.s (.fa 24 (.t 11) 1), .s (.load 25 false 1 (.t 24)), .s (.bin 26 .geq (.t 25) (.k (.v (.c (.int .i64 0)))))]) (.cond (.t 26) (.reg [.s (.load 27 true 5 (.t 5)), .s (.load 28 true 6 (.t 7)), .s (.load 29 true 6 (.t 8)), .s (.load 30 true 6 (.t 9)), .s (.call (some 31) 176 [(.t 27), (.t 28), (.t 29), (.t 30)]), .s (.fa 32 (.t 11) 2), .s (.store 6 (.t 32) (.t 31))]) (.skip)))))))))))))))) (.seq (.seq (.reg [.s (.mv 84 (.t 12)), .s (.bin 85 .neq (.t 84) (.k (.v (.c (.int .i64 0)))))]) (.cond (.t 85) (.seq (.reg [.s (.mv 86 (.t 12)), .s (.load 87 true 6 (.t 6)), .s (.call (some 88) 86 [(.t 86), (.t 87)]), .s (.store 22 (.t 10) (.t 88))]) (.ret)) (.skip))) (.seq (.reg [.s (.load 89 true 22 (.t 11)), .s (.store 22 (.t 10) (.t 89))]) (.ret))))))⟩
def c_spec_Work : Fun := ⟨146, [], fun ts K => as5 ts fun t0 t1 t2 t3 t4 => arG pInstT t0 fun x => arG pWordT t1 fun pc => arG pWordT t2 fun a => arG pWordT t3 fun b => arG pWordT t4 fun got => K (tG ((workE x pc a b got).tc [])) []⟩
theorem run_spec_Work (x : Inst) (pc : Word) (a : Word) (b : Word) (got : Word) : runK [c_spec_l9Trap, c_spec_Try, c_spec_Point, c_spec_Sets, c_spec_l9Value] (0) [] pf_spec_Work [tG (x.tc []), tG (pc.tc []), tG (a.tc []), tG (b.tc []), tG (got.tc [])] fun r o => r = tG ((workE x pc a b got).tc []) ∧ o = [] := by
  have w1 := True.intro
  conv => whnf
  repeat' (first | (refine sel_i (fun h => ?_) (fun h => ?_) <;> conv => whnf) | (refine chk_c ?_ ?_ <;> conv => whnf) | (refine And.intro ?_ rfl) | (refine And.intro ?_ ?_ <;> conv => whnf))
  all_goals (try simp only [etaKey, etaWord, etaInst, etaEff, bne_iff_ne, ne_eq, bne_eq_false_iff_eq, beq_iff_eq, beq_eq_false_iff_ne, Bool.not_eq_true', Bool.not_eq_false', decide_eq_true_eq, decide_eq_false_iff_not, ge_iff_le] at *)
  all_goals first
    | (exact absurd trivial h)
    | (exfalso; omega)
    | (refine ⟨?_⟩; first | assumption | omega | decide)
    | (refine ⟨?_⟩; have := sets_op (by assumption); omega)
    | (unfold workE nextW; simp only [*, ge_iff_le, ne_eq, not_true_eq_false, not_false_eq_true, if_true, if_false, Int.reduceEq, Bool.false_eq_true]; rfl)
    | (rw [workE_pos (by assumption) (by assumption) (by assumption) (by assumption) (by assumption) (by assumption)]; rfl)
    | (rw [workE_neg (by assumption) (by assumption) (by assumption) (by assumption) (by assumption) (by assumption)]; rfl)
    | trace_state
theorem ok_spec_Work : FunOk Tryz.prog c_spec_Work := funOk (E := [c_spec_l9Trap, c_spec_Try, c_spec_Point, c_spec_Sets, c_spec_l9Value]) (envOk_cons ok_spec_l9Trap (envOk_cons ok_spec_Try (envOk_cons ok_spec_Point (envOk_cons ok_spec_Sets (envOk_cons ok_spec_l9Value (envOk_nil)))))) mixd Tryz.func146 (pf := pf_spec_Work) (by kernel_rfl) fun ts K h => by
  obtain ⟨t0, t1, t2, t3, t4, e0, h⟩ := as5_out h
  subst e0
  obtain ⟨x, e1, hq⟩ := arG_out rd_inst h
  clear h
  subst e1
  have h := hq
  clear hq
  obtain ⟨pc, e1, hq⟩ := arG_out rd_word h
  clear h
  subst e1
  have h := hq
  clear hq
  obtain ⟨a, e1, hq⟩ := arG_out rd_word h
  clear h
  subst e1
  have h := hq
  clear hq
  obtain ⟨b, e1, hq⟩ := arG_out rd_word h
  clear h
  subst e1
  have h := hq
  clear hq
  obtain ⟨got, e1, hq⟩ := arG_out rd_word h
  clear h
  subst e1
  have h := hq
  clear hq
  exact ⟨_, _, h, Nat.le_of_ble_eq_true (show Nat.ble 5 Tryz.f146.ntmps = true by kernel_rfl), _, run_spec_Work x pc a b got⟩

def memE (m : Mem) (x : Inst) (a b : Word) : Word × Int :=
  if x.op = 10 then readM m a (IntKind.i64.wrap (a.n + x.n)) else if x.op = 11 then (zW, writeC m a (IntKind.i64.wrap (a.n + x.n)) b) else (zW, 0)
def effE (l : List Inst) (s : State) : Eff :=
  let x := (fetchI l s.pc).1
  let a := s.regs.getD x.a.toNat (FT.zero .word)
  let b := s.regs.getD x.b.toNat (FT.zero .word)
  if (fetchI l s.pc).2 ≠ 0 then trapE (fetchI l s.pc).2 s.pc else
  if (memE s.mem x a b).2 ≠ 0 then trapE (memE s.mem x a b).2 s.pc else workE x s.pc a b (memE s.mem x a b).1
def putE (s : State) (e : Eff) : State :=
  ⟨if inR e.r 0 7 then s.regs.set e.r.toNat e.val else s.regs, e.next,
   ⟨if inR e.addr 0 23 then s.mem.words.set e.addr.toNat e.put else s.mem.words, if inR e.drop 0 23 then s.mem.gone.set e.drop.toNat true else s.mem.gone⟩, s.trap⟩
abbrev zState : State := ⟨[], zW, ⟨[], []⟩, 0⟩
def stepS (l : List Inst) (s : State) : State :=
  if stateOk s = false then zState else if s.trap ≠ 0 then s else if (effE l s).trap ≠ 0 then ⟨s.regs, s.pc, s.mem, (effE l s).trap⟩ else putE s (effE l s)
def LenOk (s : State) : Prop := s.regs.length = 8 ∧ s.mem.words.length = 24 ∧ s.mem.gone.length = 24
theorem stateOk_len {s : State} (h : stateOk s = true) : LenOk s := by
  simp only [stateOk, memoryOk, Bool.and_eq_true, decide_eq_true_eq] at h
  exact ⟨h.1.1.1.1, h.1.2.1.1, h.1.2.1.2⟩
theorem LenOk.l {s : State} (h : LenOk s) : LState s 2147483647 := by
  obtain ⟨h1, h2, h3⟩ := h; exact ⟨by omega, by omega, by omega⟩
theorem fld_in {v : Int} {b : Bool} (h : fld v b = true) : 0 ≤ v ∧ v ≤ 7 := by
  simp only [fld, Bool.and_eq_true, inR_t] at h; exact h.1
theorem fetchI_ok {l : List Inst} {pc : Word} (h : (fetchI l pc).2 = 0) : insOk (fetchI l pc).1 = true := by
  unfold fetchI at h ⊢
  split at h
  · contradiction
  · rename_i h1
    rw [if_neg h1]
    split at h
    · cases h
    · rename_i h2
      rw [if_neg h2]
      cases e : insOk (l.getD pc.n.toNat (FT.zero .inst)) with
      | true => rfl
      | false => exact absurd (.inr e) h2
theorem insOk_in {x : Inst} (h : insOk x = true) : (0 ≤ x.a ∧ x.a ≤ 7) ∧ (0 ≤ x.b ∧ x.b ≤ 7) := by
  simp only [insOk, Bool.and_eq_true] at h
  exact ⟨fld_in h.1.1.1.2, fld_in h.1.1.2⟩
theorem fetchI_in {l : List Inst} {pc : Word} (h : (fetchI l pc).2 = 0) : (0 ≤ (fetchI l pc).1.a ∧ (fetchI l pc).1.a ≤ 7) ∧ (0 ≤ (fetchI l pc).1.b ∧ (fetchI l pc).1.b ≤ 7) := insOk_in (fetchI_ok h)
theorem memE_10 {m : Mem} {x : Inst} {a b : Word} (h : x.op = 10) : memE m x a b = readM m a (IntKind.i64.wrap (a.n + x.n)) := if_pos h
theorem memE_11 {m : Mem} {x : Inst} {a b : Word} (h0 : ¬ x.op = 10) (h : x.op = 11) : memE m x a b = (zW, writeC m a (IntKind.i64.wrap (a.n + x.n)) b) := by unfold memE; rw [if_neg h0, if_pos h]
theorem memE_x {m : Mem} {x : Inst} {a b : Word} (h0 : ¬ x.op = 10) (h : ¬ x.op = 11) : memE m x a b = (zW, 0) := by unfold memE; rw [if_neg h0, if_neg h]

def pf_spec_l9Mem : PF := ⟨[.c 8 true 6, .t 9], .seq (.reg [.s (.box 4 (.t 0)), .s (.box 5 (.t 1)), .s (.box 6 (.t 2)), .s (.box 7 (.t 3)), .s (.alloc 8 [.int .i64 0, .ff, .int .i64 0, .int .i64 0, .int .i64 0, .int .i64 0]), .s (.mv 9 (.k (.v (.c (.int .i64 0)))))]) (.seq (.seq (.reg [.s (.fa 12 (.t 5) 0), .s (.load 13 false 1 (.t 12))]) (.blk 0 (.seq (.reg [.s (.bin 15 .eql (.t 13) (.k (.v (.c (.int .i64 10))))), .s (.mv 14 (.t 15))]) (.cond (.t 14) (.seq (.reg [.s (.load 17 true 2 (.t 4)), .s (.load 18 true 6 (.t 6)), .s (.fa 19 (.t 6) 0), .s (.load 20 false 1 (.t 19)), .s (.fa 21 (.t 5) 4), .s (.load 22 false 1 (.t 21)), .s (.bin 23 .add (.t 20) (.t 22)), .s (.call (some 24) 174 [(.t 17), (.t 18), (.t 23)]), .s (.mv 16 (.t 24)), .s (.ext 25 (.t 16) 0), .s (.ext 26 (.t 16) 1), .s (.alloc 10 [.int .i64 0, .ff, .int .i64 0, .int .i64 0, .int .i64 0, .int .i64 0]), .s (.store 6 (.t 10) (.t 25)), .s (.mv 11 (.t 26))]) (.seq (.reg [.s (.load 27 true 6 (.t 10)), .s (.mv 28 (.t 11)), .s (.store 6 (.t 8) (.t 27)), .s (.mv 9 (.t 28))]) (.ret))) (.seq (.reg [.s (.bin 30 .eql (.t 13) (.k (.v (.c (.int .i64 11))))), .s (.mv 29 (.t 30))]) (.cond (.t 29) (.seq (.reg [.s (.build 31 [.int .i64 0, .ff, .int .i64 0, .int .i64 0, .int .i64 0, .int .i64 0] []), .s (.load 32 true 2 (.t 4)), .s (.load 33 true 6 (.t 6)), .s (.fa 34 (.t 6) 0), .s (.load 35 false 1 (.t 34)), .s (.fa 36 (.t 5) 4), .s (.load 37 false 1 (.t 36)), .s (.bin 38 .add (.t 35) (.t 37)), .s (.load 39 true 6 (.t 7)), .s (.call (some 40) 173 [(.t 32), (.t 33), (.t 38), (.t 39)]), .s (.store 6 (.t 8) (.t 31)), .s (.mv 9 (.t 40))]) (.ret)) (.skip))))))) (.seq (.reg [.s (.build 41 [.int .i64 0, .ff, .int .i64 0, .int .i64 0, .int .i64 0, .int .i64 0] []), .s (.store 6 (.t 8) (.t 41)), .s (.mv 9 (.k (.v (.c (.int .i64 0)))))]) (.ret)))⟩
def c_spec_l9Mem : Fun := ⟨145, [], fun ts K => as4 ts fun t0 t1 t2 t3 => arG pMemT t0 fun m => arG pInstT t1 fun x => arG pWordT t2 fun a => arG pWordT t3 fun b => chk (LMem m 2147483647) (K (.tup [.g ((memE m x a b).1.tc []), .c (.int .i64 (memE m x a b).2)]) [])⟩
theorem run_spec_l9Mem (m : Mem) (x : Inst) (a : Word) (b : Word) (hpre : LMem m 2147483647) : runK [c_spec_l8Write, c_spec_Read] (0) [] pf_spec_l9Mem [tG (m.tc false []), tG (x.tc []), tG (a.tc []), tG (b.tc [])] fun r o => r = .tup [.g ((memE m x a b).1.tc []), .c (.int .i64 (memE m x a b).2)] ∧ o = [] := by
  have w1 := True.intro
  conv => whnf
  repeat' (first | (refine sel_i (fun h => ?_) (fun h => ?_) <;> conv => whnf) | (refine chk_c ?_ ?_ <;> conv => whnf) | (refine And.intro ?_ rfl) | (refine And.intro ?_ ?_ <;> conv => whnf))
  all_goals (try simp only [etaKey, etaWord, etaInst, etaMemory, bne_iff_ne, ne_eq, bne_eq_false_iff_eq, beq_iff_eq, beq_eq_false_iff_ne, Bool.not_eq_true', Bool.not_eq_false', decide_eq_true_eq, decide_eq_false_iff_not] at *)
  all_goals first
    | (refine ⟨?_⟩; first | assumption | omega | decide)
    | (rw [memE_10 (by assumption)]; rfl)
    | (rw [memE_11 (by assumption) (by assumption)]; rfl)
    | (rw [memE_x (by assumption) (by assumption)]; rfl)
    | trace_state
theorem ok_spec_l9Mem : FunOk Tryz.prog c_spec_l9Mem := funOk (E := [c_spec_l8Write, c_spec_Read]) (envOk_cons ok_spec_l8Write (envOk_cons ok_spec_Read (envOk_nil))) mixd Tryz.func145 (pf := pf_spec_l9Mem) (by kernel_rfl) fun ts K h => by
  obtain ⟨t0, t1, t2, t3, e0, h⟩ := as4_out h
  subst e0
  obtain ⟨m, e1, hq⟩ := arG_out rd_mem h
  clear h
  subst e1
  have h := hq
  clear hq
  obtain ⟨x, e1, hq⟩ := arG_out rd_inst h
  clear h
  subst e1
  have h := hq
  clear hq
  obtain ⟨a, e1, hq⟩ := arG_out rd_word h
  clear h
  subst e1
  have h := hq
  clear hq
  obtain ⟨b, e1, hq⟩ := arG_out rd_word h
  clear h
  subst e1
  have h := hq
  clear hq
  obtain ⟨hpre, h⟩ := chk_o h
  exact ⟨_, _, h, Nat.le_of_ble_eq_true (show Nat.ble 4 Tryz.f145.ntmps = true by kernel_rfl), _, run_spec_l9Mem m x a b hpre⟩

def pf_spec_l9Copy : PF := ⟨[.c 2 true 10], .seq (.reg [.s (.box 1 (.t 0)), .s (.alloc 2 [.nils .word, .int .i64 0, .ff, .int .i64 0, .int .i64 0, .int .i64 0, .int .i64 0, .nils .word, .nils .bool, .int .i64 0])]) (.seq (.rgd [] [.s (.bs 3 .word []), .s (.fa 4 (.t 1) 0), .s (.load 5 false 1 (.t 4)), .s (.app 6 .word (.t 3) (.t 5)), .s (.fa 7 (.t 1) 1), .s (.load 8 true 6 (.t 7)), .s (.fa 9 (.t 1) 7), .s (.load 10 true 2 (.t 9)), .s (.call (some 11) 133 [(.t 10)]), .s (.fa 12 (.t 1) 9), .s (.load 13 false 1 (.t 12)), .s (.build 14 [.nils .word, .int .i64 0, .ff, .int .i64 0, .int .i64 0, .int .i64 0, .int .i64 0, .nils .word, .nils .bool, .int .i64 0] [(0, 1, (.t 6)), (1, 6, (.t 8)), (7, 2, (.t 11)), (9, 1, (.t 13))]), .s (.store 10 (.t 2) (.t 14))] (.tk 1 (.tk 2 (.tk 4 (.tk 5 (.tk 6 (.tk 7 (.tk 9 (.tk 10 (.one 0 false (.one 3 false (.one 8 false (.tk 11 (.one 12 true (.done none))))))))))))))) (.ret))⟩
def c_spec_l9Copy : Fun := ⟨81, [], fun ts K => as1 ts fun t0 => arG pStateT t0 fun s => chk (LState s 2147483647) (K (tG (s.tc true [])) [])⟩
theorem run_spec_l9Copy (s : State) (hpre : LState s 2147483647) : runK [c_spec_l8Copy] (0) [] pf_spec_l9Copy [tG (s.tc false [])] fun r o => r = tG (s.tc true []) ∧ o = [] := by
  obtain ⟨l1, l2, l3⟩ := hpre
  conv => whnf
  repeat' (first | (refine chk_c ?_ ?_ <;> conv => whnf) | (refine And.intro ?_ ?_ <;> conv => whnf))
  all_goals first
    | (refine ⟨?_⟩; omega)
    | (refine ⟨?_⟩; simp; done)
    | (refine ⟨?_⟩; simp [LMem, LTwo] at *; omega)
    | rfl
    | exact True.intro
    | exact ⟨rfl, rfl⟩
theorem ok_spec_l9Copy : FunOk Tryz.prog c_spec_l9Copy := funOk (E := [c_spec_l8Copy]) (envOk_cons ok_spec_l8Copy (envOk_nil)) mixd Tryz.func81 (pf := pf_spec_l9Copy) (by kernel_rfl) fun ts K h => by
  obtain ⟨t0, e0, h⟩ := as1_out h
  subst e0
  obtain ⟨s, e1, hq⟩ := arG_out rd_state h
  clear h
  subst e1
  have h := hq
  clear hq
  obtain ⟨hpre, h⟩ := chk_o h
  exact ⟨_, _, h, Nat.le_of_ble_eq_true (show Nat.ble 1 Tryz.f81.ntmps = true by kernel_rfl), _, run_spec_l9Copy s hpre⟩

def pf_impl_cloneState : PF := ⟨[.c 2 true 10], .seq (.reg [.s (.box 1 (.t 0)), .s (.alloc 2 [.nils .word, .int .i64 0, .ff, .int .i64 0, .int .i64 0, .int .i64 0, .int .i64 0, .nils .word, .nils .bool, .int .i64 0])]) (.seq (.rgd [] [.s (.fa 3 (.t 1) 0), .s (.load 4 false 1 (.t 3)), .s (.call (some 5) 77 [(.t 4)]), .s (.fa 6 (.t 1) 7), .s (.load 7 true 2 (.t 6)), .s (.call (some 8) 78 [(.t 7)]), .s (.fa 9 (.t 1) 0), .s (.store 1 (.t 9) (.t 5)), .s (.fa 10 (.t 1) 7), .s (.store 2 (.t 10) (.t 8))] (.tk 0 (.tk 1 (.tk 3 (.tk 4 (.one 2 false (.tk 6 (.one 5 true (.one 7 true (.tk 8 (.one 9 true (.done none)))))))))))) (.seq (.reg [.s (.load 11 true 10 (.t 1)), .s (.store 10 (.t 2) (.t 11))]) (.ret)))⟩
def c_impl_cloneState : Fun := ⟨40, [], fun ts K => as1 ts fun t0 => arG pStateT t0 fun s => chk (LState s 2147483647) (K (tG (s.tc true [])) [])⟩
theorem run_impl_cloneState (s : State) (hpre : LState s 2147483647) : runK [c_slices_Clone_Word, c_impl_cloneMemory] (0) [] pf_impl_cloneState [tG (s.tc false [])] fun r o => r = tG (s.tc true []) ∧ o = [] := by
  obtain ⟨l1, l2, l3⟩ := hpre
  conv => whnf
  repeat' (first | (refine chk_c ?_ ?_ <;> conv => whnf) | (refine And.intro ?_ ?_ <;> conv => whnf))
  all_goals first
    | (refine ⟨?_⟩; omega)
    | (refine ⟨?_⟩; simp; done)
    | (refine ⟨?_⟩; simp [LMem, LTwo] at *; omega)
    | rfl
    | exact True.intro
    | exact ⟨rfl, rfl⟩
theorem ok_impl_cloneState : FunOk Tryz.prog c_impl_cloneState := funOk (E := [c_slices_Clone_Word, c_impl_cloneMemory]) (envOk_cons ok_slices_Clone_Word (envOk_cons ok_impl_cloneMemory (envOk_nil))) mixd Tryz.func40 (pf := pf_impl_cloneState) (by kernel_rfl) fun ts K h => by
  obtain ⟨t0, e0, h⟩ := as1_out h
  subst e0
  obtain ⟨s, e1, hq⟩ := arG_out rd_state h
  clear h
  subst e1
  have h := hq
  clear hq
  obtain ⟨hpre, h⟩ := chk_o h
  exact ⟨_, _, h, Nat.le_of_ble_eq_true (show Nat.ble 1 Tryz.f40.ntmps = true by kernel_rfl), _, run_impl_cloneState s hpre⟩

def pf_impl_effectOf : PF := ⟨[.c 4 true 22], .seq (.reg [.s (.box 3 (.t 1)), .s (.alloc 4 [.int .i64 0, .int .i64 0, .int .i64 0, .ff, .int .i64 0, .int .i64 0, .int .i64 0, .int .i64 0, .int .i64 0, .ff, .int .i64 0, .int .i64 0, .int .i64 0, .int .i64 0, .int .i64 0, .int .i64 0, .ff, .int .i64 0, .int .i64 0, .int .i64 0, .int .i64 0, .int .i64 0])]) (.seq (.reg [.s (.mv 11 (.t 0)), .s (.fa 12 (.t 3) 1), .s (.load 13 true 6 (.t 12)), .s (.call (some 14) 72 [(.t 11), (.t 13)]), .s (.mv 10 (.t 14)), .s (.ext 15 (.t 10) 0), .s (.ext 16 (.t 10) 1), .s (.alloc 5 [.int .i64 0, .int .i64 0, .int .i64 0, .int .i64 0, .int .i64 0]), .s (.store 5 (.t 5) (.t 15)), .s (.mv 6 (.t 16))]) (.seq (.seq (.reg [.s (.mv 17 (.t 6)), .s (.bin 18 .neq (.t 17) (.k (.v (.c (.int .i64 0)))))]) (.cond (.t 18) (.seq (.reg [.s (.mv 19 (.t 6)), .s (.fa 20 (.t 3) 1), .s (.load 21 true 6 (.t 20)), .s (.call (some 22) 73 [(.t 19), (.t 21)]), .s (.store 22 (.t 4) (.t 22))]) (.ret)) (.skip))) (.seq (.rgd [] [.s (.fa 23 (.t 3) 0), .s (.load 24 false 1 (.t 23)), .s (.fa 25 (.t 5) 2), .s (.load 26 false 1 (.t 25)), .s (.ia 27 .word (.t 24) (.t 26)), .s (.load 28 true 6 (.t 27)), .s (.fa 29 (.t 3) 0), .s (.load 30 false 1 (.t 29)), .s (.fa 31 (.t 5) 3), .s (.load 32 false 1 (.t 31)), .s (.ia 33 .word (.t 30) (.t 32)), .s (.load 34 true 6 (.t 33)), .s (.alloc 7 [.int .i64 0, .ff, .int .i64 0, .int .i64 0, .int .i64 0, .int .i64 0]), .s (.alloc 8 [.int .i64 0, .ff, .int .i64 0, .int .i64 0, .int .i64 0, .int .i64 0]), .s (.store 6 (.t 7) (.t 28)), .s (.store 6 (.t 8) (.t 34))] (.tk 0 (.tk 1 (.tk 2 (.tk 3 (.tk 4 (.tk 5 (.tk 6 (.tk 7 (.tk 8 (.tk 9 (.tk 10 (.tk 11 (.alt 12 false (.one 13 false (.one 14 false (.one 15 true (.done (some [3, 4, 5, 6, 7, 8]))))) (.alt 13 false (.one 12 false (.one 14 false (.one 15 true (.done (some [3, 4, 5, 6, 7, 8]))))) (.nil)))))))))))))))) (.seq (.reg [.s (.build 35 [.int .i64 0, .ff, .int .i64 0, .int .i64 0, .int .i64 0, .int .i64 0] []), .s (.alloc 9 [.int .i64 0, .ff, .int .i64 0, .int .i64 0, .int .i64 0, .int .i64 0]), .s (.store 6 (.t 9) (.t 35))]) (.seq (.seq (.reg [.s (.fa 36 (.t 5) 0), .s (.load 37 false 1 (.t 36))]) (.blk 0 (.seq (.reg [.s (.bin 39 .eql (.t 37) (.k (.v (.c (.int .i64 10))))), .s (.mv 38 (.t 39))]) (.cond (.t 38) (.reg [.s (.fa 41 (.t 3) 7), .s (.load 42 true 2 (.t 41)), .s (.load 43 true 6 (.t 7)), .s (.fa 44 (.t 7) 0), .s (.load 45 false 1 (.t 44)), .s (.fa 46 (.t 5) 4), .s (.load 47 false 1 (.t 46)), .s (.bin 48 .add (.t 45) (.t 47)), .s (.call (some 49) 103 [(.t 42), (.t 43), (.t 48)]), .s (.mv 40 (.t 49)), .s (.ext 50 (.t 40) 0), .s (.ext 51 (.t 40) 1), .s (.store 6 (.t 9) (.t 50)), .s (.mv 6 (.t 51))]) (.seq (.reg [.s (.bin 53 .eql (.t 37) (.k (.v (.c (.int .i64 11))))), .s (.mv 52 (.t 53))]) (.cond (.t 52) (.reg [.s (.fa 54 (.t 3) 7), .s (.load 55 true 2 (.t 54)), .s (.load 56 true 6 (.t 7)), .s (.fa 57 (.t 7) 0), .s (.load 58 false 1 (.t 57)), .s (.fa 59 (.t 5) 4), .s (.load 60 false 1 (.t 59)), .s (.bin 61 .add (.t 58) (.t 60)), .s (.load 62 true 6 (.t 8)), .s (.call (some 63) 104 [(.t 55), (.t 56), (.t 61), (.t 62)]), .s (.mv 6 (.t 63))]) (.skip))))))) (.seq (.seq (.reg [.s (.mv 64 (.t 6)), .s (.bin 65 .neq (.t 64) (.k (.v (.c (.int .i64 0)))))]) (.cond (.t 65) (.seq (.reg [.s (.mv 66 (.t 6)), .s (.fa 67 (.t 3) 1), .s (.load 68 true 6 (.t 67)), .s (.call (some 69) 73 [(.t 66), (.t 68)]), .s (.store 22 (.t 4) (.t 69))]) (.ret)) (.skip))) (.seq (.reg [.s (.load 70 true 5 (.t 5)), .s (.fa 71 (.t 3) 1), .s (.load 72 true 6 (.t 71)), .s (.load 73 true 6 (.t 7)), .s (.load 74 true 6 (.t 8)), .s (.load 75 true 6 (.t 9)), .s (.call (some 76) 105 [(.t 70), (.t 72), (.t 73), (.t 74), (.t 75)]), .s (.store 22 (.t 4) (.t 76))]) (.ret))))))))⟩
def c_impl_effectOf : Fun := ⟨57, [], fun ts K => as2 ts fun t0 t1 => arC (pL .inst) t0 fun l => arG pStateT t1 fun s => chk (l.length ≤ 2147483647 ∧ LenOk s) (K (tG ((effE l s).tc [])) [])⟩
theorem run_impl_effectOf (l : List (FT.Ty .inst)) (s : State) (hpre : l.length ≤ 2147483647 ∧ LenOk s) : runK [c_impl_Fetch, c_impl_trapped, c_impl_Read, c_impl_writeCode, c_impl_Work] (0) [] pf_impl_effectOf [tL false .inst l, tG (s.tc false [])] fun r o => r = tG ((effE l s).tc []) ∧ o = [] := by
  obtain ⟨l1, l2, l3, l4⟩ := hpre
  have l5 : LMem s.mem 2147483647 := ⟨by omega, by omega⟩
  conv => whnf
  repeat' (first | (refine sel_i (fun h => ?_) (fun h => ?_) <;> conv => whnf) | (refine chk_c ?_ ?_ <;> conv => whnf) | (refine And.intro ?_ rfl) | (refine And.intro ?_ ?_ <;> conv => whnf))
  all_goals (try simp only [etaKey, etaWord, etaInst, etaEff, etaMemory, bne_iff_ne, ne_eq, bne_eq_false_iff_eq, beq_iff_eq, beq_eq_false_iff_ne, Bool.not_eq_true', Bool.not_eq_false', decide_eq_true_eq, decide_eq_false_iff_not] at *)
  all_goals first
    | (refine ⟨?_⟩; first | assumption | omega | decide)
    | contradiction
    | (refine ⟨?_⟩; have := fetchI_in (by assumption); omega)
    | (unfold effE memE; simp only [*, ne_eq, not_true_eq_false, not_false_eq_true, if_true, if_false, Int.reduceEq]; rfl)
    | trace_state
theorem ok_impl_effectOf : FunOk Tryz.prog c_impl_effectOf := funOk (E := [c_impl_Fetch, c_impl_trapped, c_impl_Read, c_impl_writeCode, c_impl_Work]) (envOk_cons ok_impl_Fetch (envOk_cons ok_impl_trapped (envOk_cons ok_impl_Read (envOk_cons ok_impl_writeCode (envOk_cons ok_impl_Work (envOk_nil)))))) mixd Tryz.func57 (pf := pf_impl_effectOf) (by kernel_rfl) fun ts K h => by
  obtain ⟨t0, t1, e0, h⟩ := as2_out h
  subst e0
  obtain ⟨l, e1, hq⟩ := arC_out (rd_l .inst) h
  clear h
  subst e1
  have h := hq
  clear hq
  obtain ⟨s, e1, hq⟩ := arG_out rd_state h
  clear h
  subst e1
  have h := hq
  clear hq
  obtain ⟨hpre, h⟩ := chk_o h
  exact ⟨_, _, h, Nat.le_of_ble_eq_true (show Nat.ble 2 Tryz.f57.ntmps = true by kernel_rfl), _, run_impl_effectOf l s hpre⟩

def pf_spec_l9Apply : PF := ⟨[.c 4 true 10], .seq (.reg [.s (.box 2 (.t 0)), .s (.box 3 (.t 1)), .s (.alloc 4 [.nils .word, .int .i64 0, .ff, .int .i64 0, .int .i64 0, .int .i64 0, .int .i64 0, .nils .word, .nils .bool, .int .i64 0])]) (.seq (.seq (.reg [.s (.fa 5 (.t 3) 1), .s (.load 6 false 1 (.t 5)), .s (.call (some 7) 42 [(.t 6), (.k (.v (.c (.int .i64 0)))), (.k (.v (.c (.int .i64 7))))])]) (.cond (.t 7) (.reg [.s (.fa 8 (.t 2) 0), .s (.load 9 false 1 (.t 8)), .s (.fa 10 (.t 3) 1), .s (.load 11 false 1 (.t 10)), .s (.fa 12 (.t 3) 2), .s (.load 13 true 6 (.t 12)), .s (.ia 14 .word (.t 9) (.t 11)), .s (.store 6 (.t 14) (.t 13))]) (.skip))) (.seq (.seq (.reg [.s (.fa 15 (.t 3) 14), .s (.load 16 false 1 (.t 15)), .s (.call (some 17) 42 [(.t 16), (.k (.v (.c (.int .i64 0)))), (.k (.v (.c (.int .i64 23))))])]) (.cond (.t 17) (.reg [.s (.fa 18 (.t 2) 7), .s (.fa 19 (.t 18) 0), .s (.load 20 false 1 (.t 19)), .s (.fa 21 (.t 3) 14), .s (.load 22 false 1 (.t 21)), .s (.fa 23 (.t 3) 15), .s (.load 24 true 6 (.t 23)), .s (.ia 25 .word (.t 20) (.t 22)), .s (.store 6 (.t 25) (.t 24))]) (.skip))) (.seq (.seq (.reg [.s (.fa 26 (.t 3) 21), .s (.load 27 false 1 (.t 26)), .s (.call (some 28) 42 [(.t 27), (.k (.v (.c (.int .i64 0)))), (.k (.v (.c (.int .i64 23))))])]) (.cond (.t 28) (.reg [.s (.fa 29 (.t 2) 7), .s (.fa 30 (.t 29) 1), .s (.load 31 false 1 (.t 30)), .s (.fa 32 (.t 3) 21), .s (.load 33 false 1 (.t 32)), .s (.ia 34 .bool (.t 31) (.t 33)), .s (.store 1 (.t 34) (.k (.v (.c .tt))))]) (.skip))) (.seq (.reg [.s (.fa 35 (.t 3) 8), .s (.load 36 true 6 (.t 35)), .s (.fa 37 (.t 2) 1), .s (.store 6 (.t 37) (.t 36))]) (.seq (.reg [.s (.load 38 true 10 (.t 2)), .s (.store 10 (.t 4) (.t 38))]) (.ret))))))⟩
def c_spec_l9Apply : Fun := ⟨140, [true, false], fun ts K => as2 ts fun t0 t1 => arG pStateO t0 fun s => arG pEffT t1 fun e => chk (LenOk s) (K (tG ((putE s e).tc true [])) ([.v (.g [.unk, .int .i64 s.pc.n, .bool s.pc.is, .int .i64 s.pc.key.base, .int .i64 s.pc.key.top, .int .i64 s.pc.key.perms, .int .i64 s.pc.key.sealed, .unk, .unk, .int .i64 s.trap])]))⟩
theorem run_spec_l9Apply (s : State) (e : Eff) (hpre : LenOk s) : runK [c_spec_l1In] (0) [true, false] pf_spec_l9Apply [tG (s.tc true []), tG (e.tc [])] fun r o => r = tG ((putE s e).tc true []) ∧ o = [.v (.g [.unk, .int .i64 s.pc.n, .bool s.pc.is, .int .i64 s.pc.key.base, .int .i64 s.pc.key.top, .int .i64 s.pc.key.perms, .int .i64 s.pc.key.sealed, .unk, .unk, .int .i64 s.trap])] := by
  obtain ⟨l2, l3, l4⟩ := hpre
  conv => whnf
  repeat' (first | (refine sel_i (fun h => ?_) (fun h => ?_) <;> conv => whnf) | (refine chk_c ?_ ?_ <;> conv => whnf) | (refine And.intro ?_ rfl) | (refine And.intro ?_ ?_ <;> conv => whnf))
  all_goals (try simp only [etaKey, etaWord, etaInst, etaEff, etaMemory, bne_iff_ne, ne_eq, bne_eq_false_iff_eq, beq_iff_eq, beq_eq_false_iff_ne, Bool.not_eq_true', Bool.not_eq_false', decide_eq_true_eq, decide_eq_false_iff_not] at *)
  all_goals first
    | (refine ⟨?_⟩; simp only [inR_t, inR_f] at *; omega)
    | (unfold putE; simp only [*, if_true, if_false, Bool.false_eq_true]; first | done | rfl)
    | trace_state
theorem ok_spec_l9Apply : FunOk Tryz.prog c_spec_l9Apply := funOk (E := [c_spec_l1In]) (envOk_cons ok_spec_l1In (envOk_nil)) mixd Tryz.func140 (pf := pf_spec_l9Apply) (by kernel_rfl) fun ts K h => by
  obtain ⟨t0, t1, e0, h⟩ := as2_out h
  subst e0
  obtain ⟨s, e1, hq⟩ := arG_out rd_stateO h
  clear h
  subst e1
  have h := hq
  clear hq
  obtain ⟨e, e1, hq⟩ := arG_out rd_eff h
  clear h
  subst e1
  have h := hq
  clear hq
  obtain ⟨hpre, h⟩ := chk_o h
  exact ⟨_, _, h, Nat.le_of_ble_eq_true (show Nat.ble 2 Tryz.f140.ntmps = true by kernel_rfl), _, run_spec_l9Apply s e hpre⟩

def pf_impl_State_put : PF := ⟨[], .seq (.reg [.s (.box 3 (.t 1))]) (.seq (.seq (.reg [.s (.fa 4 (.t 3) 1), .s (.load 5 false 1 (.t 4)), .s (.call (some 6) 36 [(.t 5), (.k (.v (.c (.int .i64 0)))), (.k (.v (.c (.int .i64 7))))])]) (.cond (.t 6) (.rgd [] [.s (.mv 7 (.t 0)), .s (.nchk 8 (.t 7)), .s (.fa 9 (.t 8) 0), .s (.load 10 false 1 (.t 9)), .s (.fa 11 (.t 3) 1), .s (.load 12 false 1 (.t 11)), .s (.fa 13 (.t 3) 2), .s (.load 14 true 6 (.t 13)), .s (.ia 15 .word (.t 10) (.t 12)), .s (.store 6 (.t 15) (.t 14))] (.tk 0 (.tk 1 (.tk 2 (.tk 3 (.tk 4 (.tk 5 (.tk 6 (.tk 7 (.tk 8 (.one 9 true (.done none)))))))))))) (.skip))) (.seq (.seq (.reg [.s (.fa 16 (.t 3) 14), .s (.load 17 false 1 (.t 16)), .s (.call (some 18) 36 [(.t 17), (.k (.v (.c (.int .i64 0)))), (.k (.v (.c (.int .i64 23))))])]) (.cond (.t 18) (.rgd [] [.s (.mv 19 (.t 0)), .s (.nchk 20 (.t 19)), .s (.fa 21 (.t 20) 7), .s (.fa 22 (.t 21) 0), .s (.load 23 false 1 (.t 22)), .s (.fa 24 (.t 3) 14), .s (.load 25 false 1 (.t 24)), .s (.fa 26 (.t 3) 15), .s (.load 27 true 6 (.t 26)), .s (.ia 28 .word (.t 23) (.t 25)), .s (.store 6 (.t 28) (.t 27))] (.tk 0 (.tk 1 (.tk 2 (.tk 3 (.tk 4 (.tk 5 (.tk 6 (.tk 7 (.tk 8 (.tk 9 (.one 10 true (.done none))))))))))))) (.skip))) (.seq (.seq (.reg [.s (.fa 29 (.t 3) 21), .s (.load 30 false 1 (.t 29)), .s (.call (some 31) 36 [(.t 30), (.k (.v (.c (.int .i64 0)))), (.k (.v (.c (.int .i64 23))))])]) (.cond (.t 31) (.rgd [] [.s (.mv 32 (.t 0)), .s (.nchk 33 (.t 32)), .s (.fa 34 (.t 33) 7), .s (.fa 35 (.t 34) 1), .s (.load 36 false 1 (.t 35)), .s (.fa 37 (.t 3) 21), .s (.load 38 false 1 (.t 37)), .s (.ia 39 .bool (.t 36) (.t 38)), .s (.store 1 (.t 39) (.k (.v (.c .tt))))] (.tk 0 (.tk 1 (.tk 2 (.tk 3 (.tk 4 (.tk 5 (.tk 6 (.tk 7 (.one 8 true (.done none))))))))))) (.skip))) (.reg [.s (.mv 40 (.t 0)), .s (.fa 41 (.t 3) 8), .s (.load 42 true 6 (.t 41)), .s (.nchk 43 (.t 40)), .s (.fa 44 (.t 43) 1), .s (.store 6 (.t 44) (.t 42))]))))⟩
def c_impl_State_put : Fun := ⟨58, [true, false], fun ts K => as2 ts fun t0 t1 => arQ pStateO t0 fun s => arG pEffT t1 fun e => chk (LenOk s) (K (.tup []) ([.v (.ptr true 0 ((putE s e).tc true []))]))⟩
theorem run_impl_State_put (s : State) (e : Eff) (hpre : LenOk s) : runK [c_impl_in] (0) [true, false] pf_impl_State_put [.v (.ptr true 0 (s.tc true [])), tG (e.tc [])] fun r o => r = .tup [] ∧ o = [.v (.ptr true 0 ((putE s e).tc true []))] := by
  obtain ⟨l2, l3, l4⟩ := hpre
  conv => whnf
  repeat' (first | (refine sel_i (fun h => ?_) (fun h => ?_) <;> conv => whnf) | (refine chk_c ?_ ?_ <;> conv => whnf) | (refine And.intro ?_ rfl) | (refine And.intro ?_ ?_ <;> conv => whnf))
  all_goals (try simp only [etaKey, etaWord, etaInst, etaEff, etaMemory, bne_iff_ne, ne_eq, bne_eq_false_iff_eq, beq_iff_eq, beq_eq_false_iff_ne, Bool.not_eq_true', Bool.not_eq_false', decide_eq_true_eq, decide_eq_false_iff_not] at *)
  all_goals first
    | (refine ⟨?_⟩; simp only [inR_t, inR_f] at *; omega)
    | (unfold putE; simp only [*, if_true, if_false, Bool.false_eq_true]; first | done | rfl)
    | trace_state
theorem ok_impl_State_put : FunOk Tryz.prog c_impl_State_put := funOk (E := [c_impl_in]) (envOk_cons ok_impl_in (envOk_nil)) mixd Tryz.func58 (pf := pf_impl_State_put) (by kernel_rfl) fun ts K h => by
  obtain ⟨t0, t1, e0, h⟩ := as2_out h
  subst e0
  obtain ⟨s, e1, hq⟩ := arQ_out rd_stateO h
  clear h
  subst e1
  have h := hq
  clear hq
  obtain ⟨e, e1, hq⟩ := arG_out rd_eff h
  clear h
  subst e1
  have h := hq
  clear hq
  obtain ⟨hpre, h⟩ := chk_o h
  exact ⟨_, _, h, Nat.le_of_ble_eq_true (show Nat.ble 2 Tryz.f58.ntmps = true by kernel_rfl), _, run_impl_State_put s e hpre⟩

theorem stepS_no {l : List Inst} {s : State} (h : stateOk s = false) : stepS l s = zState := if_pos h
theorem stepS_trap {l : List Inst} {s : State} (h : stateOk s = true) (h2 : ¬ s.trap = 0) : stepS l s = s := by
  unfold stepS; rw [if_neg (by rw [h]; decide), if_pos h2]
theorem stepS_e {l : List Inst} {s : State} (h : stateOk s = true) (h2 : s.trap = 0) (h3 : ¬ (effE l s).trap = 0) : stepS l s = ⟨s.regs, s.pc, s.mem, (effE l s).trap⟩ := by
  unfold stepS; rw [if_neg (by rw [h]; decide), if_neg (by simpa using h2), if_pos h3]
theorem stepS_0 {l : List Inst} {s : State} (h : stateOk s = true) (h2 : s.trap = 0) (h3 : (effE l s).trap = 0) : stepS l s = putE s (effE l s) := by
  unfold stepS; rw [if_neg (by rw [h]; decide), if_neg (by simpa using h2), if_neg (by simpa using h3)]
theorem trapE_trap (c : Int) (pc : Word) : (trapE c pc).trap = c := rfl

def pf_impl_Step : PF := ⟨[.c 4 true 10], .seq (.reg [.s (.box 3 (.t 1)), .s (.alloc 4 [.nils .word, .int .i64 0, .ff, .int .i64 0, .int .i64 0, .int .i64 0, .int .i64 0, .nils .word, .nils .bool, .int .i64 0])]) (.seq (.seq (.reg [.s (.load 7 true 10 (.t 3)), .s (.call (some 8) 35 [(.t 7)]), .s (.bnot 9 (.t 8))]) (.cond (.t 9) (.seq (.reg [.s (.build 10 [.nils .word, .int .i64 0, .ff, .int .i64 0, .int .i64 0, .int .i64 0, .int .i64 0, .nils .word, .nils .bool, .int .i64 0] []), .s (.store 10 (.t 4) (.t 10))]) (.ret)) (.skip))) (.seq (.reg [.s (.load 11 true 10 (.t 3)), .s (.call (some 12) 40 [(.t 11)]), .s (.alloc 5 [.nils .word, .int .i64 0, .ff, .int .i64 0, .int .i64 0, .int .i64 0, .int .i64 0, .nils .word, .nils .bool, .int .i64 0]), .s (.store 10 (.t 5) (.t 12))]) (.seq (.seq (.reg [.s (.fa 13 (.t 3) 9), .s (.load 14 false 1 (.t 13)), .s (.bin 15 .neq (.t 14) (.k (.v (.c (.int .i64 0)))))]) (.cond (.t 15) (.seq (.reg [.s (.load 16 true 10 (.t 5)), .s (.store 10 (.t 4) (.t 16))]) (.ret)) (.skip))) (.seq (.reg [.s (.mv 17 (.t 0)), .s (.load 18 true 10 (.t 3)), .s (.call (some 19) 57 [(.t 17), (.t 18)]), .s (.alloc 6 [.int .i64 0, .int .i64 0, .int .i64 0, .ff, .int .i64 0, .int .i64 0, .int .i64 0, .int .i64 0, .int .i64 0, .ff, .int .i64 0, .int .i64 0, .int .i64 0, .int .i64 0, .int .i64 0, .int .i64 0, .ff, .int .i64 0, .int .i64 0, .int .i64 0, .int .i64 0, .int .i64 0]), .s (.store 22 (.t 6) (.t 19))]) (.seq (.seq (.reg [.s (.fa 20 (.t 6) 0), .s (.load 21 false 1 (.t 20)), .s (.bin 22 .neq (.t 21) (.k (.v (.c (.int .i64 0)))))]) (.cond (.t 22) (.seq (.reg [.s (.fa 23 (.t 6) 0), .s (.load 24 false 1 (.t 23)), .s (.fa 25 (.t 5) 9), .s (.store 1 (.t 25) (.t 24))]) (.seq (.reg [.s (.load 26 true 10 (.t 5)), .s (.store 10 (.t 4) (.t 26))]) (.ret))) (.skip))) (.seq (.reg [.s (.load 27 true 22 (.t 6)), .s (.call (some 28) 58 [(.t 5), (.t 27)])]) (.seq (.reg [.s (.load 29 true 10 (.t 5)), .s (.store 10 (.t 4) (.t 29))]) (.ret))))))))⟩
def c_impl_Step : Fun := ⟨22, [], fun ts K => as2 ts fun t0 t1 => arC (pL .inst) t0 fun l => arG pStateT t1 fun s => chk (l.length ≤ 2147483647 ∧ LState s 2147483647) (K (tG ((stepS l s).tc true [])) [])⟩
theorem run_impl_Step (l : List (FT.Ty .inst)) (s : State) (hpre : l.length ≤ 2147483647 ∧ LState s 2147483647) : runK [c_impl_StateOk, c_impl_cloneState, c_impl_effectOf, c_impl_State_put] (0) [] pf_impl_Step [tL false .inst l, tG (s.tc false [])] fun r o => r = tG ((stepS l s).tc true []) ∧ o = [] := by
  obtain ⟨l1, l2⟩ := hpre
  conv => whnf
  repeat' (first | (refine sel_i (fun h => ?_) (fun h => ?_) <;> conv => whnf) | (refine chk_c ?_ ?_ <;> conv => whnf) | (refine And.intro ?_ rfl) | (refine And.intro ?_ ?_ <;> conv => whnf))
  all_goals (try simp only [etaKey, etaWord, etaInst, etaEff, etaMemory, etaState, bne_iff_ne, ne_eq, bne_eq_false_iff_eq, beq_iff_eq, beq_eq_false_iff_ne, Bool.not_eq_true', Bool.not_eq_false', decide_eq_true_eq, decide_eq_false_iff_not] at *)
  all_goals first
    | (refine ⟨?_⟩; assumption)
    | (refine ⟨?_⟩; exact stateOk_len (by assumption))
    | (refine ⟨?_⟩; exact ⟨l1, stateOk_len (by assumption)⟩)
    | (rw [stepS_no (by assumption)]; rfl)
    | (rw [stepS_trap (by assumption) (by assumption)]; rfl)
    | (rw [stepS_e (by assumption) (by assumption) (by assumption)]; rfl)
    | (rw [stepS_0 (by assumption) (by assumption) (by assumption)]; rfl)
    | trace_state
theorem ok_impl_Step : FunOk Tryz.prog c_impl_Step := funOk (E := [c_impl_StateOk, c_impl_cloneState, c_impl_effectOf, c_impl_State_put]) (envOk_cons ok_impl_StateOk (envOk_cons ok_impl_cloneState (envOk_cons ok_impl_effectOf (envOk_cons ok_impl_State_put (envOk_nil))))) mixd Tryz.func22 (pf := pf_impl_Step) (by kernel_rfl) fun ts K h => by
  obtain ⟨t0, t1, e0, h⟩ := as2_out h
  subst e0
  obtain ⟨l, e1, hq⟩ := arC_out (rd_l .inst) h
  clear h
  subst e1
  have h := hq
  clear hq
  obtain ⟨s, e1, hq⟩ := arG_out rd_state h
  clear h
  subst e1
  have h := hq
  clear hq
  obtain ⟨hpre, h⟩ := chk_o h
  exact ⟨_, _, h, Nat.le_of_ble_eq_true (show Nat.ble 2 Tryz.f22.ntmps = true by kernel_rfl), _, run_impl_Step l s hpre⟩

def pf_spec_Step : PF := ⟨[.c 4 true 10], .seq (.reg [.s (.box 3 (.t 1)), .s (.alloc 4 [.nils .word, .int .i64 0, .ff, .int .i64 0, .int .i64 0, .int .i64 0, .int .i64 0, .nils .word, .nils .bool, .int .i64 0])]) (.seq (.seq (.reg [.s (.load 13 true 10 (.t 3)), .s (.call (some 14) 41 [(.t 13)]), .s (.bnot 15 (.t 14))]) (.cond (.t 15) (.seq (.reg [.s (.build 16 [.nils .word, .int .i64 0, .ff, .int .i64 0, .int .i64 0, .int .i64 0, .int .i64 0, .nils .word, .nils .bool, .int .i64 0] []), .s (.store 10 (.t 4) (.t 16))]) (.ret)) (.skip))) (.seq (.reg [.s (.load 17 true 10 (.t 3)), .s (.call (some 18) 81 [(.t 17)]), .s (.alloc 5 [.nils .word, .int .i64 0, .ff, .int .i64 0, .int .i64 0, .int .i64 0, .int .i64 0, .nils .word, .nils .bool, .int .i64 0]), .s (.store 10 (.t 5) (.t 18))]) (.seq (.seq (.reg [.s (.fa 19 (.t 3) 9), .s (.load 20 false 1 (.t 19)), .s (.bin 21 .neq (.t 20) (.k (.v (.c (.int .i64 0)))))]) (.cond (.t 21) (.seq (.reg [.s (.load 22 true 10 (.t 5)), .s (.store 10 (.t 4) (.t 22))]) (.ret)) (.skip))) (.seq (.reg [.s (.mv 24 (.t 0)), .s (.fa 25 (.t 3) 1), .s (.load 26 true 6 (.t 25)), .s (.call (some 27) 85 [(.t 24), (.t 26)]), .s (.mv 23 (.t 27)), .s (.ext 28 (.t 23) 0), .s (.ext 29 (.t 23) 1), .s (.alloc 6 [.int .i64 0, .int .i64 0, .int .i64 0, .int .i64 0, .int .i64 0]), .s (.store 5 (.t 6) (.t 28)), .s (.mv 7 (.t 29))]) (.seq (.seq (.reg [.s (.mv 30 (.t 7)), .s (.bin 31 .eql (.t 30) (.k (.v (.c (.int .i64 0)))))]) (.cond (.t 31) (.seq (.rgd [] [.s (.fa 32 (.t 3) 0), .s (.load 33 false 1 (.t 32)), .s (.fa 34 (.t 6) 2), .s (.load 35 false 1 (.t 34)), .s (.ia 36 .word (.t 33) (.t 35)), .s (.load 37 true 6 (.t 36)), .s (.fa 38 (.t 3) 0), .s (.load 39 false 1 (.t 38)), .s (.fa 40 (.t 6) 3), .s (.load 41 false 1 (.t 40)), .s (.ia 42 .word (.t 39) (.t 41)), .s (.load 43 true 6 (.t 42)), .s (.alloc 8 [.int .i64 0, .ff, .int .i64 0, .int .i64 0, .int .i64 0, .int .i64 0]), .s (.alloc 9 [.int .i64 0, .ff, .int .i64 0, .int .i64 0, .int .i64 0, .int .i64 0]), .s (.store 6 (.t 8) (.t 37)), .s (.store 6 (.t 9) (.t 43))] (.tk 0 (.tk 1 (.tk 2 (.tk 3 (.tk 4 (.tk 5 (.tk 6 (.tk 7 (.tk 8 (.tk 9 (.tk 10 (.tk 11 (.alt 12 false (.one 13 false (.one 14 false (.one 15 true (.done (some [3, 4, 5, 6, 8, 9]))))) (.alt 13 false (.one 12 false (.one 14 false (.one 15 true (.done (some [3, 4, 5, 6, 8, 9]))))) (.nil)))))))))))))))) (.seq (.reg [.s (.fa 45 (.t 3) 7), .s (.load 46 true 2 (.t 45)), .s (.load 47 true 5 (.t 6)), .s (.load 48 true 6 (.t 8)), .s (.load 49 true 6 (.t 9)), .s (.call (some 50) 145 [(.t 46), (.t 47), (.t 48), (.t 49)]), .s (.mv 44 (.t 50)), .s (.ext 51 (.t 44) 0), .s (.ext 52 (.t 44) 1), .s (.alloc 10 [.int .i64 0, .ff, .int .i64 0, .int .i64 0, .int .i64 0, .int .i64 0]), .s (.store 6 (.t 10) (.t 51)), .s (.mv 11 (.t 52))]) (.seq (.reg [.s (.load 53 true 5 (.t 6)), .s (.fa 54 (.t 3) 1), .s (.load 55 true 6 (.t 54)), .s (.load 56 true 6 (.t 8)), .s (.load 57 true 6 (.t 9)), .s (.load 58 true 6 (.t 10)), .s (.call (some 59) 146 [(.t 53), (.t 55), (.t 56), (.t 57), (.t 58)]), .s (.alloc 12 [.int .i64 0, .int .i64 0, .int .i64 0, .ff, .int .i64 0, .int .i64 0, .int .i64 0, .int .i64 0, .int .i64 0, .ff, .int .i64 0, .int .i64 0, .int .i64 0, .int .i64 0, .int .i64 0, .int .i64 0, .ff, .int .i64 0, .int .i64 0, .int .i64 0, .int .i64 0, .int .i64 0]), .s (.store 22 (.t 12) (.t 59))]) (.seq (.reg [.s (.mv 60 (.t 11)), .s (.mv 7 (.t 60))]) (.seq (.seq (.reg [.s (.mv 61 (.t 7)), .s (.bin 62 .eql (.t 61) (.k (.v (.c (.int .i64 0)))))]) (.cond (.t 62) (.reg [.s (.fa 63 (.t 12) 0), .s (.load 64 false 1 (.t 63)), .s (.mv 7 (.t 64))]) (.skip))) (.seq (.reg [.s (.mv 65 (.t 7)), .s (.bin 66 .eql (.t 65) (.k (.v (.c (.int .i64 0)))))]) (.cond (.t 66) (.seq (.reg [.s (.load 67 true 10 (.t 5)), .s (.load 68 true 22 (.t 12)), .s (.call (some 69) 140 [(.t 67), (.t 68)]), .s (.store 10 (.t 4) (.t 69))]) (.ret)) (.skip)))))))) (.skip))) (.seq (.reg [.s (.mv 70 (.t 7)), .s (.fa 71 (.t 5) 9), .s (.store 1 (.t 71) (.t 70))]) (.seq (.reg [.s (.load 72 true 10 (.t 5)), .s (.store 10 (.t 4) (.t 72))]) (.ret))))))))⟩
def c_spec_Step : Fun := ⟨98, [], fun ts K => as2 ts fun t0 t1 => arC (pL .inst) t0 fun l => arG pStateT t1 fun s => chk (l.length ≤ 2147483647 ∧ LState s 2147483647) (K (tG ((stepS l s).tc true [])) [])⟩
theorem run_spec_Step (l : List (FT.Ty .inst)) (s : State) (hpre : l.length ≤ 2147483647 ∧ LState s 2147483647) : runK [c_spec_StateOk, c_spec_l9Copy, c_spec_Fetch, c_spec_l9Apply, c_spec_l9Mem, c_spec_Work] (0) [] pf_spec_Step [tL false .inst l, tG (s.tc false [])] fun r o => r = tG ((stepS l s).tc true []) ∧ o = [] := by
  obtain ⟨l1, l2⟩ := hpre
  conv => whnf
  repeat' (first | (refine sel_i (fun h => ?_) (fun h => ?_) <;> conv => whnf) | (refine chk_c ?_ ?_ <;> conv => whnf) | (refine And.intro ?_ rfl) | (refine And.intro ?_ ?_ <;> conv => whnf))
  all_goals (try simp only [etaKey, etaWord, etaInst, etaEff, etaMemory, etaState, bne_iff_ne, ne_eq, bne_eq_false_iff_eq, beq_iff_eq, beq_eq_false_iff_ne, Bool.not_eq_true', Bool.not_eq_false', decide_eq_true_eq, decide_eq_false_iff_not] at *)
  all_goals first
    | contradiction
    | (refine ⟨?_⟩; assumption)
    | (refine ⟨?_⟩; exact l2.2)
    | (refine ⟨?_⟩; exact stateOk_len (by assumption))
    | (have hl := stateOk_len (by assumption); have hx := fetchI_in (by assumption); have l3 := hl.1; refine ⟨?_⟩; omega)
    | (rw [stepS_no (by assumption)]; rfl)
    | (rw [stepS_trap (by assumption) (by assumption)]; rfl)
    | (rw [stepS_e (by assumption) (by assumption) (by unfold effE; simp only [*, ne_eq, not_true_eq_false, not_false_eq_true, trapE_trap, if_true, if_false])]; unfold effE; simp only [*, ne_eq, not_true_eq_false, not_false_eq_true, trapE_trap, if_true, if_false]; rfl)
    | (rw [stepS_0 (by assumption) (by assumption) (by unfold effE; simp only [*, ne_eq, not_true_eq_false, not_false_eq_true, trapE_trap, if_true, if_false])]; unfold effE; simp only [*, ne_eq, not_true_eq_false, not_false_eq_true, trapE_trap, if_true, if_false]; rfl)
    | trace_state
theorem ok_spec_Step : FunOk Tryz.prog c_spec_Step := funOk (E := [c_spec_StateOk, c_spec_l9Copy, c_spec_Fetch, c_spec_l9Apply, c_spec_l9Mem, c_spec_Work]) (envOk_cons ok_spec_StateOk (envOk_cons ok_spec_l9Copy (envOk_cons ok_spec_Fetch (envOk_cons ok_spec_l9Apply (envOk_cons ok_spec_l9Mem (envOk_cons ok_spec_Work (envOk_nil))))))) mixd Tryz.func98 (pf := pf_spec_Step) (by kernel_rfl) fun ts K h => by
  obtain ⟨t0, t1, e0, h⟩ := as2_out h
  subst e0
  obtain ⟨l, e1, hq⟩ := arC_out (rd_l .inst) h
  clear h
  subst e1
  have h := hq
  clear hq
  obtain ⟨s, e1, hq⟩ := arG_out rd_state h
  clear h
  subst e1
  have h := hq
  clear hq
  obtain ⟨hpre, h⟩ := chk_o h
  exact ⟨_, _, h, Nat.le_of_ble_eq_true (show Nat.ble 2 Tryz.f98.ntmps = true by kernel_rfl), _, run_spec_Step l s hpre⟩








def wordsBytes (ws : List Word) : List Int := ws.flatMap wordBytes
def goneByte (b : Bool) : Int := if b then 1 else 0
def goneBytes (g : List Bool) : List Int := g.map goneByte
def stateBytes (s : State) : List Int :=
  if stateOk s then wordsBytes s.regs ++ wordBytes s.pc ++ wordsBytes s.mem.words ++ goneBytes s.mem.gone ++ [s.trap] else []

def stateOfGo (b : List Int) : Nat → List Word → Int → Option (List Word × Int)
  | 0, ws, a => some (ws, a)
  | k + 1, ws, a => match wordOf b a with | some (w, e) => stateOfGo b k (ws ++ [w]) e | none => none
def stateAt (b : List Int) (ws : List Word) (a : Nat) : State := ⟨ws.take 8, ws.getD 8 (FT.zero .word), ⟨ws.drop 9, (win b a 24).map (fun v => v == 1)⟩, b.getD (a + 24) 0⟩
def stateOf (b : List Int) : Option State :=
  match stateOfGo b 33 [] 0 with
  | some (ws, a) => if (b.length : Int) = a + 25 ∧ stateBytes (stateAt b ws a.toNat) = b then some (stateAt b ws a.toNat) else none
  | none => none

def inGo (l : List Inst) : Nat → State → State × Nat
  | 0, s => (s, 0)
  | k + 1, s => if s.trap = 0 then ((inGo l k (stepS l s)).1, (inGo l k (stepS l s)).2 + 1) else (s, 0)
def inOrder (l : List Inst) (s : State) (n : Int) : State × Int :=
  if stateOk s = false then (zState, 0) else ((inGo l (min n 600).toNat s).1, ((inGo l (min n 600).toNat s).2 : Int))
def stC (v : State) (i j k : Nat) (r : List Cell) : List Cell := .sl false .word i :: v.pc.flat (.sl false .word j :: .sl false .bool k :: .int .i64 v.trap :: r)
def zSC : List Cell := [.nils .word, .int .i64 0, .ff, .int .i64 0, .int .i64 0, .int .i64 0, .int .i64 0, .nils .word, .nils .bool, .int .i64 0]

def goes (l : List Inst) (b : List Int) (n : Int) : List Int × Bool :=
  match stateOf b with
  | some s => (stateBytes (inOrder l s n).1, true)
  | none => ([], false)

/-! words that are right, and what they are under -/
theorem wrap_bv (n : Int) : BitVec.ofInt IntKind.i64.bits (IntKind.i64.wrap n) = BitVec.ofInt IntKind.i64.bits n := by
  apply BitVec.eq_of_toNat_eq
  simp only [BitVec.toNat_ofInt, IntKind.wrap_i64]
  show (_ % (18446744073709551616 : Int)).toNat = (n % (18446744073709551616 : Int)).toNat
  omega
theorem andI_bv (a b : Int) : BitVec.ofInt IntKind.i64.bits (andI a b) = BitVec.ofInt IntKind.i64.bits a &&& BitVec.ofInt IntKind.i64.bits b := by
  unfold andI
  rw [wrap_bv, BitVec.ofInt_natCast, BitVec.ofNat_toNat, BitVec.setWidth_eq]
theorem andI_comm (a b : Int) : andI a b = andI b a := by unfold andI; rw [BitVec.and_comm]
theorem andI_assoc (a b c : Int) : andI (andI a b) c = andI a (andI b c) := by
  have h1 : andI (andI a b) c = IntKind.i64.wrap ((BitVec.ofInt IntKind.i64.bits a &&& BitVec.ofInt IntKind.i64.bits b) &&& BitVec.ofInt IntKind.i64.bits c).toNat := by rw [← andI_bv]; rfl
  have h2 : andI a (andI b c) = IntKind.i64.wrap (BitVec.ofInt IntKind.i64.bits a &&& (BitVec.ofInt IntKind.i64.bits b &&& BitVec.ofInt IntKind.i64.bits c)).toNat := by rw [← andI_bv]; rfl
  rw [h1, h2, BitVec.and_assoc]
theorem andI_zero (a : Int) : andI a 0 = 0 := by
  unfold andI
  rw [show BitVec.ofInt IntKind.i64.bits 0 = 0#_ from rfl, BitVec.and_zero]; rfl
theorem andI_nat {m n : Nat} (h : n < 9223372036854775808) : andI (m : Int) (n : Int) = ((m % 18446744073709551616 &&& n : Nat) : Int) := by
  unfold andI
  rw [BitVec.ofInt_natCast, BitVec.ofInt_natCast, BitVec.toNat_and, BitVec.toNat_ofNat, BitVec.toNat_ofNat]
  show IntKind.i64.wrap ((m % 18446744073709551616 &&& n % 18446744073709551616 : Nat) : Int) = _
  rw [Nat.mod_eq_of_lt (a := n) (by omega)]
  have : m % 18446744073709551616 &&& n ≤ n := Nat.and_le_right
  exact wrap_id (by omega) (by omega)
theorem andI_le (a : Int) {p : Int} (h : 0 ≤ p) (h2 : p < 9223372036854775808) : 0 ≤ andI a p ∧ andI a p ≤ p := by
  obtain ⟨n, rfl⟩ := Int.eq_ofNat_of_zero_le h
  unfold andI
  have h1 : (BitVec.ofInt IntKind.i64.bits a &&& BitVec.ofInt IntKind.i64.bits (n : Int)).toNat ≤ n := by
    rw [BitVec.toNat_and, BitVec.ofInt_natCast, BitVec.toNat_ofNat]
    refine Nat.le_trans Nat.and_le_right (Nat.mod_le _ _)
  rw [wrap_id (by omega) (by omega)]; omega
theorem andI_le' {p : Int} (a : Int) (h : 0 ≤ p) (h2 : p < 9223372036854775808) : 0 ≤ andI p a ∧ andI p a ≤ p := by rw [andI_comm]; exact andI_le a h h2
theorem andI_same (a b : Int) : andI a (andI a b) = andI a b := by
  rw [← andI_assoc]
  have h1 : andI (andI a a) b = IntKind.i64.wrap ((BitVec.ofInt IntKind.i64.bits a &&& BitVec.ofInt IntKind.i64.bits a) &&& BitVec.ofInt IntKind.i64.bits b).toNat := by rw [← andI_bv]; rfl
  rw [h1, BitVec.and_self]; rfl
theorem andI_self {a : Int} (h : 0 ≤ a) (h2 : a < 9223372036854775808) : andI a a = a := by
  obtain ⟨n, rfl⟩ := Int.eq_ofNat_of_zero_le h
  rw [andI_nat (by omega), Nat.mod_eq_of_lt (by omega), Nat.and_self]
theorem andI_bit {a b p : Int} (h : andI a b = b) (hp : ¬ andI b p = 0) : ¬ andI a p = 0 := fun h0 => hp (by
  rw [← h, andI_comm a b, andI_assoc, h0, andI_zero])

/-! ### bounds -/
theorem packGo_some {b t : Int} {p : Packed} : ∀ {n e0 : Nat}, packGo b t n e0 = some p → ∃ e : Nat, e0 ≤ e ∧ e < e0 + n ∧ p = ⟨e, packB b e, packL b t e⟩ ∧ packOk b t e = true
  | 0, e0, h => by cases h
  | n + 1, e0, h => by
    unfold packGo at h
    split at h
    · rename_i h1; cases h; exact ⟨e0, by omega, by omega, rfl, h1⟩
    · obtain ⟨e, h1, h2, h3, h4⟩ := packGo_some h; exact ⟨e, by omega, by omega, h3, h4⟩
theorem packGo_find {b t : Int} {e : Nat} (hp : packOk b t e = true) : ∀ {n e0 : Nat}, e0 ≤ e → e < e0 + n → ∃ f : Nat, e0 ≤ f ∧ f ≤ e ∧ packGo b t n e0 = some ⟨f, packB b f, packL b t f⟩ ∧ packOk b t f = true
  | 0, e0, h1, h2 => by omega
  | n + 1, e0, h1, h2 => by
    by_cases h : packOk b t e0 = true
    · exact ⟨e0, by omega, h1, packGo_t h, h⟩
    · have hne : e0 ≠ e := fun q => h (q ▸ hp)
      obtain ⟨f, g1, g2, g3, g4⟩ := packGo_find hp (n := n) (e0 := e0 + 1) (by omega) (by omega)
      exact ⟨f, by omega, g2, by rw [packGo_f (by simpa using h)]; exact g3, g4⟩
theorem packOk_n {b t : Int} {e : Nat} (h : packOk b t e = true) : packB b e ≤ 63 ∧ packL b t e ≤ 63 := by simpa [packOk] using h
theorem wide_e {b t : Int} (h : boundsOk b t = true) {e : Nat} (he : e ≤ 6) (hp : pack b t = some ⟨e, packB b e, packL b t e⟩) (ho : packOk b t e = true) :
    wide b t = (packB b e * 2 ^ e, min 4096 ((packB b e + packL b t e) * 2 ^ e)) := by
  obtain ⟨h0, h1, h2⟩ := bounds_n h
  obtain ⟨o1, o2⟩ := packOk_n ho
  have hu : unpackOk ⟨e, packB b e, packL b t e⟩ = true := by
    simp only [unpackOk, Bool.and_eq_true, inR_t]
    unfold packB packL at *
    rcases e_cases he with rfl | rfl | rfl | rfl | rfl | rfl | rfl <;> simp only [Int.reducePow, Int.pow_zero] at * <;> omega
  unfold wide
  rw [if_pos h, hp]
  simp only [Option.isSome_some, if_true, Option.getD_some]
  rw [unpack_yes hu]
  simp only [Int.toNat_natCast]
theorem wide_cases {b t : Int} (h : boundsOk b t = true) : wide b t = (0, 4096) ∨ ∃ e : Nat, e ≤ 6 ∧ packOk b t e = true ∧ wide b t = (packB b e * 2 ^ e, min 4096 ((packB b e + packL b t e) * 2 ^ e)) := by
  cases hp : pack b t with
  | none => left; unfold wide; rw [if_pos h, hp]; rfl
  | some p =>
    have hp2 := hp
    rw [pack_yes h] at hp2
    obtain ⟨e, h1, h2, rfl, h4⟩ := packGo_some hp2
    exact .inr ⟨e, by omega, h4, wide_e h (by omega) hp h4⟩
theorem wide_parts {e : Nat} (he : e ≤ 6) {lo hi B L : Int} (hB : 0 ≤ B ∧ B ≤ 63) (hL : 0 ≤ L ∧ L ≤ 63) (h1 : lo = B * 2 ^ e) (h2 : hi = min 4096 ((B + L) * 2 ^ e)) : boundsOk lo hi = true ∧ wide lo hi = (lo, hi) := by
  have hb : boundsOk lo hi = true := by
    simp only [boundsOk, Bool.and_eq_true, decide_eq_true_eq]
    rcases e_cases he with rfl | rfl | rfl | rfl | rfl | rfl | rfl <;> simp only [Int.reducePow, Int.pow_zero] at * <;> omega
  refine ⟨hb, ?_⟩
  have ho : packOk lo hi e = true := by
    simp only [packOk, Bool.and_eq_true, decide_eq_true_eq]
    unfold packB packL
    rcases e_cases he with rfl | rfl | rfl | rfl | rfl | rfl | rfl <;> simp only [Int.reducePow, Int.pow_zero] at * <;> omega
  obtain ⟨f, f1, f2, f3, f4⟩ := packGo_find ho (n := 7) (e0 := 0) (by omega) (by omega)
  rw [wide_e hb (e := f) (by omega) (by rw [pack_yes hb]; exact f3) f4]
  unfold packB packL
  rcases e_cases he with rfl | rfl | rfl | rfl | rfl | rfl | rfl <;> rcases e_cases (e := f) (by omega) with rfl | rfl | rfl | rfl | rfl | rfl | rfl <;>
    first
      | (exfalso; omega)
      | (simp only [Int.reducePow, Int.pow_zero, Prod.mk.injEq] at *; omega)
theorem wide_ok {b t : Int} (h : boundsOk b t = true) : 0 ≤ (wide b t).1 ∧ (wide b t).1 ≤ b ∧ t ≤ (wide b t).2 ∧ (wide b t).2 ≤ 4096 ∧ exact_ (wide b t).1 (wide b t).2 = true := by
  obtain ⟨h0, h1, h2⟩ := bounds_n h
  rcases wide_cases h with e | ⟨e, he, ho, hw⟩
  · rw [e]; exact ⟨by decide, by omega, by omega, by decide, by decide +kernel⟩
  · obtain ⟨o1, o2⟩ := packOk_n ho
    have hB : 0 ≤ packB b e ∧ packB b e ≤ 63 := ⟨by
      unfold packB
      rcases e_cases he with rfl | rfl | rfl | rfl | rfl | rfl | rfl <;> simp only [Int.reducePow, Int.pow_zero] <;> omega, o1⟩
    have hL : 0 ≤ packL b t e ∧ packL b t e ≤ 63 := ⟨by
      unfold packL
      rcases e_cases he with rfl | rfl | rfl | rfl | rfl | rfl | rfl <;> simp only [Int.reducePow, Int.pow_zero] <;> omega, o2⟩
    obtain ⟨g1, g2⟩ := wide_parts he hB hL rfl rfl
    rw [hw]
    refine ⟨?_, ?_, ?_, by dsimp only; omega, by simp only [exact_, g1, g2, decide_true, Bool.and_self]⟩
    all_goals
      dsimp only
      unfold packB packL at *
      rcases e_cases he with rfl | rfl | rfl | rfl | rfl | rfl | rfl <;> simp only [Int.reducePow, Int.pow_zero] at * <;> omega
/-! ### keys and words -/
theorem keyOk_n {k : Key} (h : keyOk k = true) : 0 ≤ k.base ∧ k.base ≤ k.top ∧ k.top ≤ 4096 ∧ 0 ≤ k.perms ∧ k.perms ≤ 63 ∧ 0 ≤ k.sealed ∧ k.sealed ≤ 7 := by
  simp only [keyOk, Bool.and_eq_true, exact_, inR_t] at h
  have := bounds_n h.1.1.1.1
  omega
theorem keyOk_mk {k : Key} (h : exact_ k.base k.top = true) (h1 : 0 ≤ k.perms ∧ k.perms ≤ 63) (h2 : 0 ≤ k.sealed ∧ k.sealed ≤ 7) : keyOk k = true := by
  simp only [keyOk, Bool.and_eq_true, inR_t]; exact ⟨⟨h, h1⟩, h2⟩
theorem keyOk_exact {k : Key} (h : keyOk k = true) : exact_ k.base k.top = true := by simp only [keyOk, Bool.and_eq_true] at h; exact h.1.1
theorem wordOk_is {w : Word} (h : wordOk w = true) (h2 : w.is = true) : keyOk w.key = true := by
  simp only [wordOk, h2, if_true, Bool.and_eq_true] at h; exact h.2
theorem wordOk_mk {n : Int} {k : Key} (h : 0 ≤ n ∧ n ≤ 65535) (h2 : keyOk k = true) : wordOk ⟨n, true, k⟩ = true := by
  simp only [wordOk, if_true, Bool.and_eq_true, inR_t]; exact ⟨h, h2⟩
theorem and65 (n : Int) : 0 ≤ andI n 65535 ∧ andI n 65535 ≤ 65535 := andI_le n (by decide) (by decide)
theorem plainW_ok (n : Int) : wordOk (plainW n) = true := by
  simp only [wordOk, plainW, Bool.and_eq_true, inR_t, Bool.false_eq_true, if_false, decide_true, and_true]
  exact and65 n
def coversK (a b : Key) : Bool := keyOk a && keyOk b && decide (a.base ≤ b.base) && decide (b.top ≤ a.top) && decide (andI a.perms b.perms = b.perms)
theorem coversK_iff {a b : Key} : coversK a b = true ↔ keyOk a = true ∧ keyOk b = true ∧ a.base ≤ b.base ∧ b.top ≤ a.top ∧ andI a.perms b.perms = b.perms := by
  simp only [coversK, Bool.and_eq_true, decide_eq_true_eq, and_assoc]
theorem coversK_refl {a : Key} (h : keyOk a = true) : coversK a a = true :=
  coversK_iff.2 ⟨h, h, Int.le_refl _, Int.le_refl _, andI_self (by have := keyOk_n h; omega) (by have := keyOk_n h; omega)⟩
theorem coversK_trans {a b c : Key} (h : coversK a b = true) (k : coversK b c = true) : coversK a c = true := by
  obtain ⟨h1, h2, h3, h4, h5⟩ := coversK_iff.1 h
  obtain ⟨k1, k2, k3, k4, k5⟩ := coversK_iff.1 k
  exact coversK_iff.2 ⟨h1, k2, by omega, by omega, by rw [← k5, ← andI_assoc, h5]⟩
def Und (C : List Word) (w : Word) : Prop := w.is = true → ∃ c ∈ C, c.is = true ∧ coversK c.key w.key = true
theorem und_bare (C : List Word) (n : Int) : Und C (plainW n) := fun h => by cases h
theorem und_zero (C : List Word) : Und C zW := fun h => by cases h
theorem und_of {C : List Word} {w v : Word} (h : Und C w) (hw : w.is = true) (hk : coversK w.key v.key = true) : Und C v := fun _ => by
  obtain ⟨c, h1, h2, h3⟩ := h hw
  exact ⟨c, h1, h2, coversK_trans h3 hk⟩
theorem openW_iff {w : Word} : openW w = true ↔ wordOk w = true ∧ w.is = true ∧ w.key.sealed = 0 := by
  simp only [openW, Bool.and_eq_true, beq_iff_eq, and_assoc]
theorem sealsB_n {y : Word} (h : sealsB y = true) : openW y = true ∧ ¬ andI y.key.perms 32 = 0 ∧ 1 ≤ y.n ∧ y.n ≤ 7 := by
  simp only [sealsB, Bool.and_eq_true, bne_iff_ne, inR_t] at h
  exact ⟨h.1.1.1.1, h.1.1.1.2, h.2.1, h.2.2⟩
def Fine (w v : Word) : Prop := wordOk v = true ∧ (v.is = true → w.is = true ∧ coversK w.key v.key = true)
theorem fine_bare (w : Word) (n : Int) : Fine w (plainW n) := ⟨plainW_ok n, fun h => by cases h⟩
theorem fine_self {w : Word} (h : wordOk w = true) : Fine w w := ⟨h, fun hi => ⟨hi, coversK_refl (wordOk_is h hi)⟩⟩
theorem Fine.und {C : List Word} {w v : Word} (h : Fine w v) (hu : Und C w) : Und C v := fun hi => by
  obtain ⟨h1, h2⟩ := h.2 hi
  exact und_of hu h1 h2 hi
theorem weakenW_fine (w : Word) (m : Int) : Fine w (weakenW w m) := by
  unfold weakenW
  split
  · rename_i h
    obtain ⟨h1, h2, h3⟩ := openW_iff.1 h
    have hk := wordOk_is h1 h2
    have hn := keyOk_n hk
    have hp := andI_le' (andI m 63) (p := w.key.perms) (by omega) (by omega)
    have hk' : keyOk { w.key with perms := andI w.key.perms (andI m 63) } = true := keyOk_mk (k := ⟨w.key.base, w.key.top, andI w.key.perms (andI m 63), w.key.sealed⟩) (keyOk_exact (k := w.key) hk) ⟨hp.1, by dsimp only; omega⟩ (by dsimp only; omega)
    refine ⟨?_, fun _ => ⟨h2, coversK_iff.2 ⟨hk, hk', Int.le_refl _, Int.le_refl _, andI_same _ _⟩⟩⟩
    have hw := wordOk_n h1
    simp only [wordOk, h2, if_true, Bool.and_eq_true, inR_t]
    exact ⟨hw, hk'⟩
  · exact fine_bare w _
theorem narrowW_fine (w : Word) (n : Int) : Fine w (narrowW w n) := by
  unfold narrowW
  split
  · rename_i h
    simp only [Bool.and_eq_true] at h
    obtain ⟨⟨h, _⟩, hb⟩ := h
    obtain ⟨h1, h2, h3⟩ := openW_iff.1 h
    have hk := wordOk_is h1 h2
    have hn := keyOk_n hk
    split
    · exact fine_bare w _
    · rename_i hr
      obtain ⟨w1, w2, w3, w4, w5⟩ := wide_ok hb
      have hk' : keyOk { w.key with base := (wide w.n (IntKind.i64.wrap (w.n + n))).1, top := (wide w.n (IntKind.i64.wrap (w.n + n))).2 } = true := keyOk_mk w5 (by dsimp only; omega) (by dsimp only; omega)
      refine ⟨?_, fun _ => ⟨h2, coversK_iff.2 ⟨hk, hk', by dsimp only; omega, by dsimp only; omega, andI_self (by omega) (by omega)⟩⟩⟩
      have hw := wordOk_n h1
      simp only [wordOk, h2, if_true, Bool.and_eq_true, inR_t]
      exact ⟨hw, hk'⟩
  · exact fine_bare w _
theorem pointW_fine (w : Word) (n : Int) : Fine w (pointW w n) := by
  unfold pointW
  split
  · rename_i h
    obtain ⟨h1, h2, h3⟩ := openW_iff.1 h
    exact ⟨wordOk_mk (and65 n) (wordOk_is h1 h2), fun _ => ⟨h2, coversK_refl (wordOk_is h1 h2)⟩⟩
  · exact fine_bare w _
theorem seal_fine {w : Word} (h1 : wordOk w = true) (h2 : w.is = true) {s : Int} (hs : 0 ≤ s ∧ s ≤ 7) : Fine w { w with key := { w.key with sealed := s } } := by
  have hk := wordOk_is h1 h2
  have hn := keyOk_n hk
  have hk' : keyOk { w.key with sealed := s } = true := keyOk_mk (k := ⟨w.key.base, w.key.top, w.key.perms, s⟩) (keyOk_exact (k := w.key) hk) (by dsimp only; omega) hs
  refine ⟨?_, fun _ => ⟨h2, coversK_iff.2 ⟨hk, hk', Int.le_refl _, Int.le_refl _, andI_self (by omega) (by omega)⟩⟩⟩
  have hw := wordOk_n h1
  simp only [wordOk, h2, if_true, Bool.and_eq_true, inR_t]
  exact ⟨hw, hk'⟩
theorem sealBy_fine (w y : Word) : Fine w (sealBy w y) := by
  unfold sealBy
  split
  · rename_i h
    simp only [Bool.and_eq_true] at h
    obtain ⟨h1, h2, h3⟩ := openW_iff.1 h.1
    exact seal_fine h1 h2 (by have := sealsB_n h.2; omega)
  · exact fine_bare w _
theorem openBy_fine (w y : Word) : Fine w (openBy w y) := by
  unfold openBy
  split
  · rename_i h
    simp only [Bool.and_eq_true] at h
    exact seal_fine h.1.1.1 h.1.1.2 (by decide)
  · exact fine_bare w _
theorem takenW_fine {y w : Word} (h : wordOk w = true) : Fine w (takenW y w) := by
  unfold takenW
  split
  · exact fine_bare w _
  · exact fine_self h
theorem filterW_fine {g : List Bool} {w : Word} (h : wordOk w = true) : Fine w (filterW g w) := by
  unfold filterW
  split
  · exact fine_bare w _
  · exact fine_self h
theorem zW_ok : wordOk zW = true := by decide
theorem tryW_0 {w : Word} {n p : Int} (h : tryW w n p = 0) : wordOk w = true ∧ w.is = true ∧ w.key.sealed = 0 ∧ andI w.key.perms p = p ∧ w.key.base ≤ n ∧ n < w.key.top := by
  unfold tryW at h
  split at h
  · cases h
  · rename_i h1
    split at h
    · cases h
    · rename_i h2
      split at h
      · cases h
      · rename_i h3
        split at h
        · cases h
        · rename_i h4
          exact ⟨by cases e : wordOk w with | true => rfl | false => exact absurd (.inr e) h1, by cases e : w.is with | true => rfl | false => exact absurd (.inl e) h1, by omega, by omega, by omega, by omega⟩
theorem tryW_in (w : Word) (n p : Int) : 0 ≤ tryW w n p ∧ tryW w n p ≤ 4 := by
  unfold tryW
  repeat' split
  all_goals omega
theorem getD_ok {ws : List Word} (h : ∀ w ∈ ws, wordOk w = true) (i : Nat) : wordOk (ws.getD i (FT.zero .word)) = true := by
  rw [List.getD_eq_getElem?_getD]
  cases e : ws[i]? with
  | none => exact zW_ok
  | some w => exact h w (List.mem_of_getElem? e)
theorem getD_und {C ws : List Word} (h : ∀ w ∈ ws, Und C w) (i : Nat) : Und C (ws.getD i (FT.zero .word)) := by
  rw [List.getD_eq_getElem?_getD]
  cases e : ws[i]? with
  | none => exact und_zero C
  | some w => exact h w (List.mem_of_getElem? e)
end Go.Pi
