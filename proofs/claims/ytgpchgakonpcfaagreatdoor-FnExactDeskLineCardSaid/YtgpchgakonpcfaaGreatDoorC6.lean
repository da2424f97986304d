/- Contracts of functions, each out of its run by PI. No conditions. -/
import Derived.Test.YtgpchgakonpcfaaGreatDoorC5
namespace Go.Pi
open Go.Proofs
set_option linter.unusedVariables false
set_option linter.unusedSimpArgs false
set_option maxRecDepth 100000
attribute [local irreducible] iterN
theorem settle_no {c : Core} (h : coreOk c = false) : settle c = (zCore, 0) := if_pos h
theorem settle_yes {c : Core} (h : coreOk c = true) : settle c = settleGo 600 c 0 := if_neg (by rw [h]; decide)
def coC (c : Core) (i : Nat) : List Cell := [.sl false .word i, .int .i64 c.s.pc.n, .bool c.s.pc.is, .int .i64 c.s.pc.key.base, .int .i64 c.s.pc.key.top, .int .i64 c.s.pc.key.perms, .int .i64 c.s.pc.key.sealed, .sl false .word (i + 1), .sl false .bool (i + 2), .int .i64 c.s.trap, .sl false .entry (i + 3), .int .i64 c.next.n, .bool c.next.is, .int .i64 c.next.key.base, .int .i64 c.next.key.top, .int .i64 c.next.key.perms, .int .i64 c.next.key.sealed, .bool c.stop, .sl false (.int .i64) (i + 4)]

def lb_i_Settle_0 : PC := .seq (.r [.m 28 9, .f 29 6 10, .l 30 1 29, .len 31 false 30, .bin 32 .lss 28 31] (.cond 32 .skip (.exit 2))) (.seq (.blk 3 (.reg [.L 36 19 6, .m 37 9, .c 38 120 [36, 37], .m 35 38, .ext 39 35 0, .ext 40 35 1, .o 19 6 39])) (.reg [.m 33 9, .bin 34 .add 33 (.i 1), .m 9 34]))
def lb_i_Settle_1 : PC := .seq (.r [.m 18 8, .bin 19 .lss 18 (.i 600), .m 20 19, .y 20 21 (.fa 21 6 10), .y 20 22 (.load 22 false 1 21), .y 20 23 (.len 23 false 22), .y 20 24 (.bin 24 .gtr 23 (.i 0)), .pick 25 20 24 .F] (.cond 25 .skip (.exit 0))) (.seq (.blk 1 (.seq (.r [.mv 9 (.i 0)] (.blk 2 (.loop [4, 6, 7, 8, 9] lb_i_Settle_0))) (.r [.L 42 19 6, .c 43 121 [42], .m 41 43, .ext 44 41 0, .ext 45 41 1, .alloc 10 zcC, .o 19 10 44, .m 11 45] (.r [.L 46 19 10, .o 19 6 46] (.r [.m 47 11] (.cond 47 (.reg [.m 48 7, .bin 49 .add 48 (.i 1), .m 7 49]) .skip)))))) (.reg [.m 26 8, .bin 27 .add 26 (.i 1), .m 8 27]))
def pf_i_Settle : PF := ⟨[.c 4 true 19, .t 5], .r [.box 3 1, .alloc 4 zcC, .mv 5 (.i 0)] (.seq (.r [.L 12 19 3, .c 13 26 [12], .bnot 14 13] (.cond 14 (.r [.build 15 zcC [], .o 19 4 15, .mv 5 (.i 0)] .ret) .skip)) (.r [.L 16 19 3, .c 17 59 [16], .alloc 6 zcC, .o 19 6 17] (.r [.mv 7 (.i 0)] (.seq (.r [.mv 8 (.i 0)] (.blk 0 (.loop [4, 6, 7, 8] lb_i_Settle_1))) (.r [.L 50 19 6, .m 51 7, .o 19 4 50, .m 5 51] .ret)))))⟩
def c_i_Settle : Fun := ⟨68, [], fun ts K => as2 ts fun t0 t1 => arC (pL .inst) t0 fun l => arG pCoreT t1 fun c => chk (LCore c 2147483647) (K (numT (settle c)) [])⟩
theorem run_i_Settle (FU : Nat) (l : List (FT.Ty .inst)) (c : Core) (hpre : LCore c 2147483647) : runK [c_i_CoreOk, c_i_cloneCore, c_i_Do, c_i_Commit] (700 + FU) [] pf_i_Settle [tL false .inst l, tG (c.tc false [])] fun r o => r = numT (settle c) ∧ o = [] := by
  conv => whnf
  repeat' (first | ((first | refine sel_i (fun h => ?_) (fun h => ?_) | refine chk_c ?_ ?_) <;> conv => whnf) | refine And.intro ?_ rfl | (refine And.intro ?_ ?_ <;> conv => whnf))
  all_goals (try simp only [etaKey, etaWord, etaMemory, etaState, etaCore, Bool.not_eq_true', Bool.not_eq_false', decide_eq_true_eq, decide_eq_false_iff_not, gt_iff_lt] at *)
  all_goals first
    | (refine ⟨?_⟩; exact hpre)
    | (rw [settle_no (by assumption)]; rfl)
    | skip
  have hok : coreOk c = true := by assumption
  rw [settle_yes hok]
  have hs0 : Sz7 c := (fit_ok hok).sz
  refine loop (α := Nat × Core × Nat) (fun ⟨k, d, m⟩ => ⟨[(4, .v (.c (.ptr 0 0))), (6, .v (.c (.ptr 1 0))), (7, .v (.c (.int .i64 (m : Int)))), (8, .v (.c (.int .i64 (k : Int))))],
        [(6, some (.flat true (.int .i64) none d.guesses)), (5, some (.flat true .entry none d.rob)), (4, some (.flat true .bool none d.s.mem.gone)), (3, some (.flat true .word none d.s.mem.words)), (2, some (.flat true .word none d.s.regs)), (1, some (.box true (coC d 2))), (0, some (.box true [.nils .word, .int .i64 0, .ff, .int .i64 0, .int .i64 0, .int .i64 0, .int .i64 0, .nils .word, .nils .bool, .int .i64 0, .nils .entry, .int .i64 0, .ff, .int .i64 0, .int .i64 0, .int .i64 0, .int .i64 0, .ff, .nils (.int .i64)]))], nums.tail.tail.tail.tail.tail.tail.tail, [], false, []⟩)
    (fun q => q.1 ≤ 600 ∧ Sz7 q.2.1 ∧ q.2.2 ≤ q.1 ∧ settleGo 600 c 0 = settleGo (600 - q.1) q.2.1 q.2.2) (fun q => 600 - q.1) (fun q R hI hR => ?_) (0, c, 0) _ ⟨by simp, hs0, by simp, rfl⟩ (by show 600 - 0 < 700 + FU; omega)
  obtain ⟨k, d, m⟩ := q
  obtain ⟨hk, hS, hm, hG⟩ := hI
  dsimp only at hk hS hm hG hR ⊢
  have hS1 := hS.1
  have hS2 := hS.2
  have w3 : IntKind.i64.wrap ((k : Int) + 1) = ((k + 1 : Nat) : Int) := by rw [wrap_id (by omega) (by omega)]; rfl
  have w4 : IntKind.i64.wrap ((m : Int) + 1) = ((m + 1 : Nat) : Int) := by rw [wrap_id (by omega) (by omega)]; rfl
  conv => whnf
  repeat' (first | ((first | refine sel_i (fun h => ?_) (fun h => ?_) | refine chk_c ?_ ?_) <;> conv => whnf) | refine And.intro ?_ rfl | (refine And.intro ?_ ?_ <;> conv => whnf))
  all_goals (try simp only [etaKey, etaWord, etaInst, etaEff, etaEntry, etaMemory, etaState, etaCore, w3, w4, Int.toNat_natCast, gt_iff_lt, decide_eq_true_eq, decide_eq_false_iff_not, Bool.and_eq_true, Bool.and_eq_false_iff] at *)
  all_goals first
    | (rw [hG, settleGo_end (by omega)]; rfl)
    | (rw [hG, show 600 - k = 0 by omega]; rfl)
    | skip
  have hr0 : 0 < d.rob.length := by omega
  have hx : settleGo (600 - k) d (m : Int) = settleGo (600 - (k + 1)) (commitC (doAll d)).1 (if (commitC (doAll d)).2 then (m : Int) + 1 else (m : Int)) := by
    rw [show 600 - k = (600 - (k + 1)) + 1 by omega]; exact settleGo_go hr0
  rw [hx] at hG
  have hdo : doAll d = doGo 8 0 d := rfl
  generalize doAll d = D at *
  refine loop (α := Nat × Core) (fun ⟨i, e⟩ => ⟨[(4, .v (.c (.ptr 0 0))), (6, .v (.c (.ptr 1 0))), (7, .v (.c (.int .i64 (m : Int)))), (8, .v (.c (.int .i64 (k : Int)))), (9, .v (.c (.int .i64 (i : Int))))],
        [(6, some (.flat true (.int .i64) none e.guesses)), (5, some (.flat true .entry none e.rob)), (4, some (.flat true .bool none e.s.mem.gone)), (3, some (.flat true .word none e.s.mem.words)), (2, some (.flat true .word none e.s.regs)), (1, some (.box true (coC e 2))), (0, some (.box true [.nils .word, .int .i64 0, .ff, .int .i64 0, .int .i64 0, .int .i64 0, .int .i64 0, .nils .word, .nils .bool, .int .i64 0, .nils .entry, .int .i64 0, .ff, .int .i64 0, .int .i64 0, .int .i64 0, .int .i64 0, .ff, .nils (.int .i64)]))], nums.tail.tail.tail.tail.tail.tail.tail, [], false, []⟩)
    (fun q => q.1 ≤ 7 ∧ Sz7 q.2 ∧ D = doGo (8 - q.1) q.1 q.2) (fun q => 8 - q.1) (fun q R2 hI2 hR2 => ?_) (0, d) _ ⟨by simp, hS, hdo⟩ (by show 8 - 0 < 700 + FU; omega)
  obtain ⟨i, e⟩ := q
  obtain ⟨hi, hE, hD⟩ := hI2
  dsimp only at hi hE hD hR2 ⊢
  have hE1 := hE.1
  have hE2 := hE.2
  have v3 : IntKind.i64.wrap ((i : Int) + 1) = ((i + 1 : Nat) : Int) := by rw [wrap_id (by omega) (by omega)]; rfl
  have v4 : IntKind.i64.wrap ((m : Int) + 1) = ((m + 1 : Nat) : Int) := by rw [wrap_id (by omega) (by omega)]; rfl
  have v5 : IntKind.i64.wrap ((k : Int) + 1) = ((k + 1 : Nat) : Int) := by rw [wrap_id (by omega) (by omega)]; rfl
  clear hpre hs0 hS hS1 hS2
  conv => whnf
  repeat' (first | ((first | refine sel_i (fun h => ?_) (fun h => ?_) | refine chk_c ?_ ?_) <;> conv => whnf) | refine And.intro ?_ rfl | (refine And.intro ?_ ?_ <;> conv => whnf))
  all_goals (try simp only [etaKey, etaWord, etaInst, etaEff, etaEntry, etaMemory, etaState, etaCore, v3, v4, v5, Int.toNat_natCast, gt_iff_lt, decide_eq_true_eq, decide_eq_false_iff_not, Bool.and_eq_true, Bool.and_eq_false_iff] at *)
  all_goals first
    | (refine ⟨?_⟩; exact hE1)
    | (exact hR2 (i + 1, (doC e (i : Int)).1) ⟨by dsimp only; omega, do_sz, by dsimp only; rw [hD, show 8 - i = (8 - (i + 1)) + 1 by omega]; exact doGo_go (by omega)⟩ (by dsimp only; omega))
    | (have hDe : D = e := by rw [hD, doGo_end (by omega)]
       subst hDe
       have hb : (commitC D).2 = true := by assumption
       rw [hb, if_pos rfl] at hG
       exact hR (k + 1, (commitC D).1, m + 1) ⟨by dsimp only; omega, commit_sz, by dsimp only; omega, by dsimp only; rw [hG]; rfl⟩ (by dsimp only; omega))
    | (have hDe : D = e := by rw [hD, doGo_end (by omega)]
       subst hDe
       have hb : (commitC D).2 = false := by assumption
       rw [hb, if_neg (by decide)] at hG
       exact hR (k + 1, (commitC D).1, m) ⟨by dsimp only; omega, commit_sz, by dsimp only; omega, by dsimp only; rw [hG]⟩ (by dsimp only; omega))
    | trace_state
theorem ok_i_Settle : FunOk Tryz.prog c_i_Settle := funOk (eK ok_i_CoreOk (eK ok_i_cloneCore (eK ok_i_Do (eK ok_i_Commit eN)))) mixd Tryz.func68 (pf := pf_i_Settle) (by kernel_rfl) fun ts K h => by
  obtain ⟨t0, t1, rfl, q0⟩ := as2_out h
  obtain ⟨l, rfl, q1⟩ := arC_out (rd_l .inst) q0
  obtain ⟨c, rfl, q2⟩ := arG_out rd_core q1
  obtain ⟨hpre, hk⟩ := chk_o q2
  exact ⟨_, _, hk, nb 2 Tryz.f68 (by kernel_rfl), _, run_i_Settle 0 l c hpre⟩

def lb_s_Settle_0 : PC := .seq (.r [.m 28 9, .f 29 6 10, .l 30 1 29, .len 31 false 30, .bin 32 .lss 28 31] (.cond 32 .skip (.exit 2))) (.seq (.blk 3 (.reg [.L 36 19 6, .m 37 9, .c 38 49 [36, 37], .m 35 38, .ext 39 35 0, .ext 40 35 1, .o 19 6 39])) (.reg [.m 33 9, .bin 34 .add 33 (.i 1), .m 9 34]))
def lb_s_Settle_1 : PC := .seq (.r [.m 18 8, .bin 19 .lss 18 (.i 600), .m 20 19, .y 20 21 (.fa 21 6 10), .y 20 22 (.load 22 false 1 21), .y 20 23 (.len 23 false 22), .y 20 24 (.bin 24 .gtr 23 (.i 0)), .pick 25 20 24 .F] (.cond 25 .skip (.exit 0))) (.seq (.blk 1 (.seq (.r [.mv 9 (.i 0)] (.blk 2 (.loop [4, 6, 7, 8, 9] lb_s_Settle_0))) (.r [.L 42 19 6, .c 43 50 [42], .m 41 43, .ext 44 41 0, .ext 45 41 1, .alloc 10 zcC, .o 19 10 44, .m 11 45] (.r [.L 46 19 10, .o 19 6 46] (.r [.m 47 11] (.cond 47 (.reg [.m 48 7, .bin 49 .add 48 (.i 1), .m 7 49]) .skip)))))) (.reg [.m 26 8, .bin 27 .add 26 (.i 1), .m 8 27]))
def pf_s_Settle : PF := ⟨[.c 4 true 19, .t 5], .r [.box 3 1, .alloc 4 zcC, .mv 5 (.i 0)] (.seq (.r [.L 12 19 3, .c 13 15 [12], .bnot 14 13] (.cond 14 (.r [.build 15 zcC [], .o 19 4 15, .mv 5 (.i 0)] .ret) .skip)) (.r [.L 16 19 3, .c 17 39 [16], .alloc 6 zcC, .o 19 6 17] (.r [.mv 7 (.i 0)] (.seq (.r [.mv 8 (.i 0)] (.blk 0 (.loop [4, 6, 7, 8] lb_s_Settle_1))) (.r [.L 50 19 6, .m 51 7, .o 19 4 50, .m 5 51] .ret)))))⟩
def c_s_Settle : Fun := ⟨17, [], fun ts K => as2 ts fun t0 t1 => arC (pL .inst) t0 fun l => arG pCoreT t1 fun c => chk (LCore c 2147483647) (K (numT (settle c)) [])⟩
theorem run_s_Settle (FU : Nat) (l : List (FT.Ty .inst)) (c : Core) (hpre : LCore c 2147483647) : runK [c_s_CoreOk, c_s_l12Copy, c_s_Do, c_s_Commit] (700 + FU) [] pf_s_Settle [tL false .inst l, tG (c.tc false [])] fun r o => r = numT (settle c) ∧ o = [] := by
  conv => whnf
  repeat' (first | ((first | refine sel_i (fun h => ?_) (fun h => ?_) | refine chk_c ?_ ?_) <;> conv => whnf) | refine And.intro ?_ rfl | (refine And.intro ?_ ?_ <;> conv => whnf))
  all_goals (try simp only [etaKey, etaWord, etaMemory, etaState, etaCore, Bool.not_eq_true', Bool.not_eq_false', decide_eq_true_eq, decide_eq_false_iff_not, gt_iff_lt] at *)
  all_goals first
    | (refine ⟨?_⟩; exact hpre)
    | (rw [settle_no (by assumption)]; rfl)
    | skip
  have hok : coreOk c = true := by assumption
  rw [settle_yes hok]
  have hs0 : Sz7 c := (fit_ok hok).sz
  refine loop (α := Nat × Core × Nat) (fun ⟨k, d, m⟩ => ⟨[(4, .v (.c (.ptr 0 0))), (6, .v (.c (.ptr 1 0))), (7, .v (.c (.int .i64 (m : Int)))), (8, .v (.c (.int .i64 (k : Int))))],
        [(6, some (.flat true (.int .i64) none d.guesses)), (5, some (.flat true .entry none d.rob)), (4, some (.flat true .bool none d.s.mem.gone)), (3, some (.flat true .word none d.s.mem.words)), (2, some (.flat true .word none d.s.regs)), (1, some (.box true (coC d 2))), (0, some (.box true [.nils .word, .int .i64 0, .ff, .int .i64 0, .int .i64 0, .int .i64 0, .int .i64 0, .nils .word, .nils .bool, .int .i64 0, .nils .entry, .int .i64 0, .ff, .int .i64 0, .int .i64 0, .int .i64 0, .int .i64 0, .ff, .nils (.int .i64)]))], nums.tail.tail.tail.tail.tail.tail.tail, [], false, []⟩)
    (fun q => q.1 ≤ 600 ∧ Sz7 q.2.1 ∧ q.2.2 ≤ q.1 ∧ settleGo 600 c 0 = settleGo (600 - q.1) q.2.1 q.2.2) (fun q => 600 - q.1) (fun q R hI hR => ?_) (0, c, 0) _ ⟨by simp, hs0, by simp, rfl⟩ (by show 600 - 0 < 700 + FU; omega)
  obtain ⟨k, d, m⟩ := q
  obtain ⟨hk, hS, hm, hG⟩ := hI
  dsimp only at hk hS hm hG hR ⊢
  have hS1 := hS.1
  have hS2 := hS.2
  have w3 : IntKind.i64.wrap ((k : Int) + 1) = ((k + 1 : Nat) : Int) := by rw [wrap_id (by omega) (by omega)]; rfl
  have w4 : IntKind.i64.wrap ((m : Int) + 1) = ((m + 1 : Nat) : Int) := by rw [wrap_id (by omega) (by omega)]; rfl
  conv => whnf
  repeat' (first | ((first | refine sel_i (fun h => ?_) (fun h => ?_) | refine chk_c ?_ ?_) <;> conv => whnf) | refine And.intro ?_ rfl | (refine And.intro ?_ ?_ <;> conv => whnf))
  all_goals (try simp only [etaKey, etaWord, etaInst, etaEff, etaEntry, etaMemory, etaState, etaCore, w3, w4, Int.toNat_natCast, gt_iff_lt, decide_eq_true_eq, decide_eq_false_iff_not, Bool.and_eq_true, Bool.and_eq_false_iff] at *)
  all_goals first
    | (rw [hG, settleGo_end (by omega)]; rfl)
    | (rw [hG, show 600 - k = 0 by omega]; rfl)
    | skip
  have hr0 : 0 < d.rob.length := by omega
  have hx : settleGo (600 - k) d (m : Int) = settleGo (600 - (k + 1)) (commitC (doAll d)).1 (if (commitC (doAll d)).2 then (m : Int) + 1 else (m : Int)) := by
    rw [show 600 - k = (600 - (k + 1)) + 1 by omega]; exact settleGo_go hr0
  rw [hx] at hG
  have hdo : doAll d = doGo 8 0 d := rfl
  generalize doAll d = D at *
  refine loop (α := Nat × Core) (fun ⟨i, e⟩ => ⟨[(4, .v (.c (.ptr 0 0))), (6, .v (.c (.ptr 1 0))), (7, .v (.c (.int .i64 (m : Int)))), (8, .v (.c (.int .i64 (k : Int)))), (9, .v (.c (.int .i64 (i : Int))))],
        [(6, some (.flat true (.int .i64) none e.guesses)), (5, some (.flat true .entry none e.rob)), (4, some (.flat true .bool none e.s.mem.gone)), (3, some (.flat true .word none e.s.mem.words)), (2, some (.flat true .word none e.s.regs)), (1, some (.box true (coC e 2))), (0, some (.box true [.nils .word, .int .i64 0, .ff, .int .i64 0, .int .i64 0, .int .i64 0, .int .i64 0, .nils .word, .nils .bool, .int .i64 0, .nils .entry, .int .i64 0, .ff, .int .i64 0, .int .i64 0, .int .i64 0, .int .i64 0, .ff, .nils (.int .i64)]))], nums.tail.tail.tail.tail.tail.tail.tail, [], false, []⟩)
    (fun q => q.1 ≤ 7 ∧ Sz7 q.2 ∧ D = doGo (8 - q.1) q.1 q.2) (fun q => 8 - q.1) (fun q R2 hI2 hR2 => ?_) (0, d) _ ⟨by simp, hS, hdo⟩ (by show 8 - 0 < 700 + FU; omega)
  obtain ⟨i, e⟩ := q
  obtain ⟨hi, hE, hD⟩ := hI2
  dsimp only at hi hE hD hR2 ⊢
  have hE1 := hE.1
  have hE2 := hE.2
  have v3 : IntKind.i64.wrap ((i : Int) + 1) = ((i + 1 : Nat) : Int) := by rw [wrap_id (by omega) (by omega)]; rfl
  have v4 : IntKind.i64.wrap ((m : Int) + 1) = ((m + 1 : Nat) : Int) := by rw [wrap_id (by omega) (by omega)]; rfl
  have v5 : IntKind.i64.wrap ((k : Int) + 1) = ((k + 1 : Nat) : Int) := by rw [wrap_id (by omega) (by omega)]; rfl
  clear hpre hs0 hS hS1 hS2
  conv => whnf
  repeat' (first | ((first | refine sel_i (fun h => ?_) (fun h => ?_) | refine chk_c ?_ ?_) <;> conv => whnf) | refine And.intro ?_ rfl | (refine And.intro ?_ ?_ <;> conv => whnf))
  all_goals (try simp only [etaKey, etaWord, etaInst, etaEff, etaEntry, etaMemory, etaState, etaCore, v3, v4, v5, Int.toNat_natCast, gt_iff_lt, decide_eq_true_eq, decide_eq_false_iff_not, Bool.and_eq_true, Bool.and_eq_false_iff] at *)
  all_goals first
    | (refine ⟨?_⟩; exact hE1)
    | (exact hR2 (i + 1, (doC e (i : Int)).1) ⟨by dsimp only; omega, do_sz, by dsimp only; rw [hD, show 8 - i = (8 - (i + 1)) + 1 by omega]; exact doGo_go (by omega)⟩ (by dsimp only; omega))
    | (have hDe : D = e := by rw [hD, doGo_end (by omega)]
       subst hDe
       have hb : (commitC D).2 = true := by assumption
       rw [hb, if_pos rfl] at hG
       exact hR (k + 1, (commitC D).1, m + 1) ⟨by dsimp only; omega, commit_sz, by dsimp only; omega, by dsimp only; rw [hG]; rfl⟩ (by dsimp only; omega))
    | (have hDe : D = e := by rw [hD, doGo_end (by omega)]
       subst hDe
       have hb : (commitC D).2 = false := by assumption
       rw [hb, if_neg (by decide)] at hG
       exact hR (k + 1, (commitC D).1, m) ⟨by dsimp only; omega, commit_sz, by dsimp only; omega, by dsimp only; rw [hG]⟩ (by dsimp only; omega))
    | trace_state
theorem ok_s_Settle : FunOk Tryz.prog c_s_Settle := funOk (eK ok_s_CoreOk (eK ok_s_l12Copy (eK ok_s_Do (eK ok_s_Commit eN)))) mixd Tryz.func17 (pf := pf_s_Settle) (by kernel_rfl) fun ts K h => by
  obtain ⟨t0, t1, rfl, q0⟩ := as2_out h
  obtain ⟨l, rfl, q1⟩ := arC_out (rd_l .inst) q0
  obtain ⟨c, rfl, q2⟩ := arG_out rd_core q1
  obtain ⟨hpre, hk⟩ := chk_o q2
  exact ⟨_, _, hk, nb 2 Tryz.f17 (by kernel_rfl), _, run_s_Settle 0 l c hpre⟩

theorem settleGo_sz : ∀ (k : Nat) {c : Core} {n : Int}, Sz7 c → Sz7 (settleGo k c n).1
  | 0, c, n, h => h
  | k + 1, c, n, h => by
    unfold settleGo
    split
    · exact settleGo_sz k commit_sz
    · exact h
theorem settle_sz {c : Core} : Sz7 (settle c).1 := by
  cases h : coreOk c with
  | true => rw [settle_yes h]; exact settleGo_sz 600 (fit_ok h).sz
  | false => rw [settle_no h]; exact zCore_sz
theorem settleGo_cnt : ∀ (k : Nat) {c : Core} {n : Int}, n ≤ (settleGo k c n).2 ∧ (settleGo k c n).2 ≤ n + k
  | 0, c, n => ⟨Int.le_refl n, by show n ≤ n + 0; omega⟩
  | k + 1, c, n => by
    unfold settleGo
    split
    · have := settleGo_cnt k (c := (commitC (doAll c)).1) (n := if (commitC (doAll c)).2 then n + 1 else n)
      split at this <;> (rename_i q; (try rw [if_pos q]); (try rw [if_neg q]); omega)
    · show n ≤ n ∧ n ≤ n + ((k + 1 : Nat) : Int); omega
theorem settle_cnt {c : Core} : 0 ≤ (settle c).2 ∧ (settle c).2 ≤ 600 := by
  cases h : coreOk c with
  | true => rw [settle_yes h]; have := settleGo_cnt 600 (c := c) (n := 0); omega
  | false => rw [settle_no h]; exact ⟨Int.le_refl 0, by show (0 : Int) ≤ 600; decide⟩


/-! which registers may hold a key: what is known of the places of a program -/
structure Flow where
  come : List Bool
  may : List (List Bool)
def Flow.tc (f : Flow) (r : List TC) : List TC := .ow .bool f.come :: .rows true .bool f.may :: r
abbrev fB : Bool := FT.zero .bool

/-! what is known of the places: the least that is closed -/
def cAt (f : Flow) (i : Nat) : Bool := f.come.getD i fB
def rowLe (x y : List Bool) : Prop := ∀ r, x.getD r fB = true → y.getD r fB = true
structure Below (f g : Flow) : Prop where
  come : ∀ i, cAt f i = true → cAt g i = true
  may : ∀ i, rowLe (f.may.getD i []) (g.may.getD i [])
theorem Below.refl (f : Flow) : Below f f := ⟨fun _ h => h, fun _ _ h => h⟩
theorem Below.trans {f g h : Flow} (a : Below f g) (b : Below g h) : Below f h := ⟨fun i q => b.come i (a.come i q), fun i r q => b.may i r (a.may i r q)⟩







/-! a register that may hold no key holds none -/



/-! rows of numbers: compared, marked, held -/


def pf_w_eqEffect : PF := ⟨[.t 4], .r [.box 2 0, .box 3 1, .mv 4 .F] (.seq (.r [.f 5 2 0, .l 6 1 5, .f 7 3 0, .l 8 1 7, .bin 9 .neq 6 8] (.cond 9 (.r [.mv 4 .F] .ret) .skip)) (.seq (.r [.f 10 2 1, .l 11 1 10, .f 12 3 1, .l 13 1 12, .bin 14 .neq 11 13] (.cond 14 (.r [.mv 4 .F] .ret) .skip)) (.seq (.r [.f 15 2 2, .L 16 6 15, .f 17 3 2, .L 18 6 17, .c 19 80 [16, 18], .bnot 20 19] (.cond 20 (.r [.mv 4 .F] .ret) .skip)) (.seq (.r [.f 21 2 8, .L 22 6 21, .f 23 3 8, .L 24 6 23, .c 25 80 [22, 24], .bnot 26 25] (.cond 26 (.r [.mv 4 .F] .ret) .skip)) (.seq (.r [.f 27 2 14, .l 28 1 27, .f 29 3 14, .l 30 1 29, .bin 31 .neq 28 30] (.cond 31 (.r [.mv 4 .F] .ret) .skip)) (.seq (.r [.f 32 2 15, .L 33 6 32, .f 34 3 15, .L 35 6 34, .c 36 80 [33, 35], .bnot 37 36] (.cond 37 (.r [.mv 4 .F] .ret) .skip)) (.seq (.r [.f 38 2 21, .l 39 1 38, .f 40 3 21, .l 41 1 40, .bin 42 .neq 39 41] (.cond 42 (.r [.mv 4 .F] .ret) .skip)) (.r [.mv 4 .T] .ret))))))))⟩
def c_w_eqEffect : Fun := ⟨186, [], fun ts K => as2 ts fun t0 t1 => arG pEffT t0 fun a => arG pEffT t1 fun b => K (tB (decide (a = b))) []⟩
theorem run_w_eqEffect (a : Eff) (b : Eff) : runK [c_w_eqWord] (0) [] pf_w_eqEffect [tG (a.tc []), tG (b.tc [])] fun r o => r = tB (decide (a = b)) ∧ o = [] := by
  obtain ⟨a1, a2, ⟨a3, a4, ⟨a5, a6, a7, a8⟩⟩, ⟨a9, a10, ⟨a11, a12, a13, a14⟩⟩, a15, ⟨a16, a17, ⟨a18, a19, a20, a21⟩⟩, a22⟩ := a
  obtain ⟨b1, b2, ⟨b3, b4, ⟨b5, b6, b7, b8⟩⟩, ⟨b9, b10, ⟨b11, b12, b13, b14⟩⟩, b15, ⟨b16, b17, ⟨b18, b19, b20, b21⟩⟩, b22⟩ := b
  conv => whnf
  repeat' (first | (refine sel_i (fun h => ?_) (fun h => ?_) <;> conv => whnf) | (refine chk_c ?_ ?_ <;> conv => whnf))
  all_goals first
    | (refine ⟨?_, rfl⟩; simp_all; done)
    | (refine ⟨?_, rfl⟩; simp_all; intros; simp_all; done)
    | trace_state
theorem ok_w_eqEffect : FunOk Tryz.prog c_w_eqEffect := funOk (eK ok_w_eqWord eN) mixd Tryz.func186 (pf := pf_w_eqEffect) (by kernel_rfl) fun ts K h => by
  obtain ⟨t0, t1, rfl, q0⟩ := as2_out h
  obtain ⟨a, rfl, q1⟩ := arG_out rd_eff q0
  obtain ⟨b, rfl, q2⟩ := arG_out rd_eff q1
  exact ⟨_, _, q2, nb 2 Tryz.f186 (by kernel_rfl), _, run_w_eqEffect a b⟩

def pf_w_eqEntry : PF := ⟨[.t 4], .r [.box 2 0, .box 3 1, .mv 4 .F] (.seq (.r [.f 5 2 0, .L 6 6 5, .f 7 3 0, .L 8 6 7, .c 9 80 [6, 8], .bnot 10 9] (.cond 10 (.r [.mv 4 .F] .ret) .skip)) (.seq (.r [.f 11 2 6, .L 12 5 11, .f 13 3 6, .L 14 5 13, .c 15 77 [12, 14], .bnot 16 15] (.cond 16 (.r [.mv 4 .F] .ret) .skip)) (.seq (.r [.f 17 2 11, .l 18 1 17, .f 19 3 11, .l 20 1 19, .eqs 21 false [.b] true 18 20] (.cond 21 (.r [.mv 4 .F] .ret) .skip)) (.seq (.r [.f 22 2 12, .L 23 22 22, .f 24 3 12, .L 25 22 24, .c 26 186 [23, 25], .bnot 27 26] (.cond 27 (.r [.mv 4 .F] .ret) .skip)) (.seq (.r [.f 28 2 34, .L 29 6 28, .f 30 3 34, .L 31 6 30, .c 32 80 [29, 31], .bnot 33 32] (.cond 33 (.r [.mv 4 .F] .ret) .skip)) (.r [.mv 4 .T] .ret))))))⟩
def c_w_eqEntry : Fun := ⟨132, [], fun ts K => as2 ts fun t0 t1 => arG pEntryT t0 fun a => arG pEntryT t1 fun b => K (tB (decide (a = b))) []⟩
theorem run_w_eqEntry (a : Entry) (b : Entry) : runK [c_w_eqIns, c_w_eqWord, c_w_eqEffect] (0) [] pf_w_eqEntry [tG (a.tc []), tG (b.tc [])] fun r o => r = tB (decide (a = b)) ∧ o = [] := by
  have key : (decide (a = b)) = (decide (a.pc = b.pc) && (decide (a.x = b.x) && ((a.done == b.done) && (decide (a.e = b.e) && decide (a.guess = b.guess))))) := by
    obtain ⟨p, x, d, e, g⟩ := a
    obtain ⟨p', x', d', e', g'⟩ := b
    rw [Bool.eq_iff_iff]
    simp only [decide_eq_true_eq, Bool.and_eq_true, beq_iff_eq, Entry.mk.injEq]
  rw [key]
  conv => whnf
  repeat' (first | ((first | refine sel_i (fun h => ?_) (fun h => ?_) | refine chk_c ?_ ?_) <;> conv => whnf) | refine And.intro ?_ rfl | (refine And.intro ?_ ?_ <;> conv => whnf))
  all_goals (try simp only [etaKey, etaWord, etaInst, etaEff, Bool.not_eq_true', Bool.not_eq_false', bne_iff_ne, ne_eq, bne_eq_false_iff_eq] at *)
  all_goals first
    | (simp only [*, Bool.true_and, Bool.false_and, Bool.and_true, Bool.and_false]; done)
    | (simp [*]; done)
    | trace_state
theorem ok_w_eqEntry : FunOk Tryz.prog c_w_eqEntry := funOk (eK ok_w_eqIns (eK ok_w_eqWord (eK ok_w_eqEffect eN))) mixd Tryz.func132 (pf := pf_w_eqEntry) (by kernel_rfl) fun ts K h => by
  obtain ⟨t0, t1, rfl, q0⟩ := as2_out h
  obtain ⟨a, rfl, q1⟩ := arG_out rd_entry q0
  obtain ⟨b, rfl, q2⟩ := arG_out rd_entry q1
  exact ⟨_, _, q2, nb 2 Tryz.f132 (by kernel_rfl), _, run_w_eqEntry a b⟩

def pf_w_toEffect : PF := ⟨[.c 2 true 22], .r [.box 1 0, .alloc 2 zcF] (.r [.alloc 3 zcF] (.r [.f 4 1 0, .l 5 1 4, .f 6 3 0, .o 1 6 5] (.r [.f 7 1 1, .l 8 1 7, .f 9 3 1, .o 1 9 8] (.r [.f 10 1 2, .L 11 6 10, .c 12 57 [11], .f 13 3 2, .o 6 13 12] (.r [.f 14 1 8, .L 15 6 14, .c 16 57 [15], .f 17 3 8, .o 6 17 16] (.r [.f 18 1 14, .l 19 1 18, .f 20 3 14, .o 1 20 19] (.r [.f 21 1 15, .L 22 6 21, .c 23 57 [22], .f 24 3 15, .o 6 24 23] (.r [.f 25 1 21, .l 26 1 25, .f 27 3 21, .o 1 27 26] (.r [.L 28 22 3, .o 22 2 28] .ret)))))))))⟩
def c_w_toEffect : Fun := ⟨155, [], fun ts K => as1 ts fun t0 => arG pEffT t0 fun a => K (tG (a.tc [])) []⟩
theorem run_w_toEffect (a : Eff) : runK [c_w_toWord] (0) [] pf_w_toEffect [tG (a.tc [])] fun r o => r = tG (a.tc []) ∧ o = [] := by
  conv => whnf
  repeat' (first
    | exact rfl
    | exact trivial
    | (refine sel_i (fun h => ?_) (fun h => ?_) <;> conv => whnf)
    | (refine chk_c ?_ ?_ <;> conv => whnf)
    | (refine And.intro ?_ ?_ <;> conv => whnf))
theorem ok_w_toEffect : FunOk Tryz.prog c_w_toEffect := funOk (eK ok_w_toWord eN) mixd Tryz.func155 (pf := pf_w_toEffect) (by kernel_rfl) fun ts K h => by
  obtain ⟨t0, rfl, q0⟩ := as1_out h
  obtain ⟨a, rfl, q1⟩ := arG_out rd_eff q0
  exact ⟨_, _, q1, nb 1 Tryz.f155 (by kernel_rfl), _, run_w_toEffect a⟩

def pf_w_toEntry : PF := ⟨[.c 2 true 40], .r [.box 1 0, .alloc 2 zcE] (.r [.alloc 3 zcE] (.r [.f 4 1 0, .L 5 6 4, .c 6 57 [5], .f 7 3 0, .o 6 7 6] (.r [.f 8 1 6, .L 9 5 8, .c 10 54 [9], .f 11 3 6, .o 5 11 10] (.r [.f 12 1 11, .l 13 1 12, .f 14 3 11, .o 1 14 13] (.r [.f 15 1 12, .L 16 22 15, .c 17 155 [16], .f 18 3 12, .o 22 18 17] (.r [.f 19 1 34, .L 20 6 19, .c 21 57 [20], .f 22 3 34, .o 6 22 21] (.r [.L 23 40 3, .o 40 2 23] .ret)))))))⟩
def c_w_toEntry : Fun := ⟨106, [], fun ts K => as1 ts fun t0 => arG pEntryT t0 fun a => K (tG (a.tc [])) []⟩
theorem run_w_toEntry (a : Entry) : runK [c_w_toIns, c_w_toWord, c_w_toEffect] (0) [] pf_w_toEntry [tG (a.tc [])] fun r o => r = tG (a.tc []) ∧ o = [] := by
  conv => whnf
  repeat' (first
    | exact rfl
    | exact trivial
    | (refine sel_i (fun h => ?_) (fun h => ?_) <;> conv => whnf)
    | (refine chk_c ?_ ?_ <;> conv => whnf)
    | (refine And.intro ?_ ?_ <;> conv => whnf))
theorem ok_w_toEntry : FunOk Tryz.prog c_w_toEntry := funOk (eK ok_w_toIns (eK ok_w_toWord (eK ok_w_toEffect eN))) mixd Tryz.func106 (pf := pf_w_toEntry) (by kernel_rfl) fun ts K h => by
  obtain ⟨t0, rfl, q0⟩ := as1_out h
  obtain ⟨a, rfl, q1⟩ := arG_out rd_entry q0
  exact ⟨_, _, q1, nb 1 Tryz.f106 (by kernel_rfl), _, run_w_toEntry a⟩

def pf_w_szEntryS : PF := ⟨[.t 4], .r [.mv 4 (.i 0)] (.r [.m 5 1, .m 6 0, .len 7 false 6, .bin 8 .sub 5 7, .m 1 8] (.seq (.r [.m 9 1, .bin 10 .lss 9 (.i 0)] (.cond 10 (.r [.mv 4 (.i (-1))] .ret) .skip)) (.r [.m 11 1, .m 4 11] .ret)))⟩
def c_w_szEntryS : Fun := ⟨38, [], fun ts K => as2 ts fun t0 t1 => arC (pL .entry) t0 fun a => arC (pI .i64) t1 fun k => chk (a.length ≤ 9223372036854775807 ∧ 0 ≤ k ∧ k ≤ 1048576) (K (tN (szr k a.length)) [])⟩
theorem run_w_szEntryS (a : List (FT.Ty .entry)) (k : Int) (hpre : a.length ≤ 9223372036854775807 ∧ 0 ≤ k ∧ k ≤ 1048576) : runK [] (0) [] pf_w_szEntryS [tL false .entry a, tI .i64 k] fun r o => r = tN (szr k a.length) ∧ o = [] := by
  conv => whnf
  rw [wrap_id (by omega) (by omega)]
  refine sel_i (fun h => ?_) (fun h => ?_) <;> conv => whnf
  · refine ⟨?_, rfl⟩; rw [szr_t (by simpa using h)]
  · refine ⟨?_, rfl⟩; rw [szr_f (by simpa using h)]
theorem ok_w_szEntryS : FunOk Tryz.prog c_w_szEntryS := funOk (eN) mixd Tryz.func38 (pf := pf_w_szEntryS) (by kernel_rfl) fun ts K h => by
  obtain ⟨t0, t1, rfl, q0⟩ := as2_out h
  obtain ⟨a, rfl, q1⟩ := arC_out (rd_l .entry) q0
  obtain ⟨k, rfl, q2⟩ := arC_out (rd_int .i64) q1
  obtain ⟨hpre, hk⟩ := chk_o q2
  exact ⟨_, _, hk, nb 2 Tryz.f38 (by kernel_rfl), _, run_w_szEntryS a k hpre⟩

def lb_w_toEntryS_0 : PC := .seq (.r [.m 8 4, .m 9 0, .len 10 false 9, .bin 11 .lss 8 10] (.cond 11 .skip (.exit 0))) (.seq (.blk 1 (.reg [.m 14 3, .m 15 4, .m 16 0, .m 17 4, .ia 18 .entry 16 17, .L 19 40 18, .c 20 106 [19], .ia 21 .entry 14 15, .o 40 21 20])) (.reg [.m 12 4, .bin 13 .add 12 (.i 1), .m 4 13]))
def pf_w_toEntryS : PF := ⟨[.t 2], .r [.mv 2 (.k (.v (.c (.nils .entry))))] (.r [.m 5 0, .len 6 false 5, .s (.mkS 7 .entry 6), .m 3 7] (.seq (.r [.mv 4 (.i 0)] (.blk 0 (.loop [0, 3, 4] lb_w_toEntryS_0))) (.r [.m 22 3, .m 2 22] .ret)))⟩
def c_w_toEntryS : Fun := ⟨56, [], fun ts K => as1 ts fun t0 => arC (pL .entry) t0 fun a => chk (a.length ≤ 2147483647) (K (tL true .entry a) [])⟩
theorem run_w_toEntryS (a : List (FT.Ty .entry)) (hpre : a.length ≤ 2147483647) : runK [c_w_toEntry] (a.length + 1) [] pf_w_toEntryS [tL false .entry a] fun r o => r = tL true .entry a ∧ o = [] := by
  conv => whnf
  refine chk_i ⟨by omega, by omega⟩ ?_
  conv => whnf
  refine loop (α := Nat × List (FT.Ty .entry)) (fun p => ⟨[(0, .v (.c (.sl false .entry 0))), (3, .v (.c (.sl true .entry 1))), (4, .v (.c (.int .i64 (p.1 : Int))))], [(1, some (.flat true .entry none p.2)), (0, some (.flat false .entry none a))], nums.tail.tail, [], false, []⟩)
      (fun p => p.1 ≤ a.length ∧ p.2 = a.take p.1 ++ (List.replicate a.length (FT.zero .entry)).drop p.1) (fun p => a.length - p.1) (fun p R hI hR => ?_) (0, List.replicate a.length (FT.zero .entry)) _ ⟨by simp, by simp⟩ (by simp)
  obtain ⟨i, xs⟩ := p
  obtain ⟨hi, hx⟩ := hI
  dsimp only at hi hx
  have hlen : xs.length = a.length := by rw [hx]; simp; omega
  dsimp only
  conv => whnf
  refine sel_i (fun h2 => ?_) (fun h2 => ?_)
  · have hlt : i < a.length := by simp at h2; omega
    have hge : a[i]? = some (a.getD i (FT.zero .entry)) := by simp [List.getD_eq_getElem?_getD, hlt]
    conv => whnf
    repeat' (refine chk_c ?_ ?_ <;> conv => whnf)
    all_goals first
      | (refine ⟨?_⟩; omega)
      | (refine ⟨?_⟩; simp; done)
      | (refine ⟨?_⟩; simp; omega)
      | skip
    simp (disch := omega) only [wrap_id, Int.toNat_natCast]
    exact hR (i + 1, xs.set i (a.getD i (FT.zero .entry))) ⟨by omega, by rw [hx]; exact set_mid (by simp) (by simpa using hlt) hge⟩ (by simp; omega)
  · have hge : i = a.length := by simp at h2; omega
    subst hge
    conv => whnf
    refine ⟨?_, rfl⟩
    rw [hx, List.take_of_length_le (by omega), List.drop_eq_nil_of_le (by simp), List.append_nil]
theorem ok_w_toEntryS : FunOk Tryz.prog c_w_toEntryS := funOk (eK ok_w_toEntry eN) mixd Tryz.func56 (pf := pf_w_toEntryS) (by kernel_rfl) fun ts K h => by
  obtain ⟨t0, rfl, q0⟩ := as1_out h
  obtain ⟨a, rfl, q1⟩ := arC_out (rd_l .entry) q0
  obtain ⟨hpre, hk⟩ := chk_o q1
  exact ⟨_, _, hk, nb 1 Tryz.f56 (by kernel_rfl), _, run_w_toEntryS a hpre⟩

def elEntry (c : Int) : Entry := ⟨⟨c, (Int.tmod (c + 1) 3 == 0), ⟨c + 1 + 1, c + 1 + 1 + 1, c + 1 + 1 + 1 + 1, c + 1 + 1 + 1 + 1 + 1⟩⟩, ⟨c + 1 + 1 + 1 + 1 + 1 + 1, c + 1 + 1 + 1 + 1 + 1 + 1 + 1, c + 1 + 1 + 1 + 1 + 1 + 1 + 1 + 1, c + 1 + 1 + 1 + 1 + 1 + 1 + 1 + 1 + 1, c + 1 + 1 + 1 + 1 + 1 + 1 + 1 + 1 + 1 + 1⟩, (Int.tmod (c + 1 + 1 + 1 + 1 + 1 + 1 + 1 + 1 + 1 + 1 + 1) 3 == 0), ⟨c + 1 + 1 + 1 + 1 + 1 + 1 + 1 + 1 + 1 + 1 + 1 + 1, c + 1 + 1 + 1 + 1 + 1 + 1 + 1 + 1 + 1 + 1 + 1 + 1 + 1, ⟨c + 1 + 1 + 1 + 1 + 1 + 1 + 1 + 1 + 1 + 1 + 1 + 1 + 1 + 1, (Int.tmod (c + 1 + 1 + 1 + 1 + 1 + 1 + 1 + 1 + 1 + 1 + 1 + 1 + 1 + 1 + 1) 3 == 0), ⟨c + 1 + 1 + 1 + 1 + 1 + 1 + 1 + 1 + 1 + 1 + 1 + 1 + 1 + 1 + 1 + 1, c + 1 + 1 + 1 + 1 + 1 + 1 + 1 + 1 + 1 + 1 + 1 + 1 + 1 + 1 + 1 + 1 + 1, c + 1 + 1 + 1 + 1 + 1 + 1 + 1 + 1 + 1 + 1 + 1 + 1 + 1 + 1 + 1 + 1 + 1 + 1, c + 1 + 1 + 1 + 1 + 1 + 1 + 1 + 1 + 1 + 1 + 1 + 1 + 1 + 1 + 1 + 1 + 1 + 1 + 1⟩⟩, ⟨c + 1 + 1 + 1 + 1 + 1 + 1 + 1 + 1 + 1 + 1 + 1 + 1 + 1 + 1 + 1 + 1 + 1 + 1 + 1 + 1, (Int.tmod (c + 1 + 1 + 1 + 1 + 1 + 1 + 1 + 1 + 1 + 1 + 1 + 1 + 1 + 1 + 1 + 1 + 1 + 1 + 1 + 1 + 1) 3 == 0), ⟨c + 1 + 1 + 1 + 1 + 1 + 1 + 1 + 1 + 1 + 1 + 1 + 1 + 1 + 1 + 1 + 1 + 1 + 1 + 1 + 1 + 1 + 1, c + 1 + 1 + 1 + 1 + 1 + 1 + 1 + 1 + 1 + 1 + 1 + 1 + 1 + 1 + 1 + 1 + 1 + 1 + 1 + 1 + 1 + 1 + 1, c + 1 + 1 + 1 + 1 + 1 + 1 + 1 + 1 + 1 + 1 + 1 + 1 + 1 + 1 + 1 + 1 + 1 + 1 + 1 + 1 + 1 + 1 + 1 + 1, c + 1 + 1 + 1 + 1 + 1 + 1 + 1 + 1 + 1 + 1 + 1 + 1 + 1 + 1 + 1 + 1 + 1 + 1 + 1 + 1 + 1 + 1 + 1 + 1 + 1⟩⟩, c + 1 + 1 + 1 + 1 + 1 + 1 + 1 + 1 + 1 + 1 + 1 + 1 + 1 + 1 + 1 + 1 + 1 + 1 + 1 + 1 + 1 + 1 + 1 + 1 + 1 + 1, ⟨c + 1 + 1 + 1 + 1 + 1 + 1 + 1 + 1 + 1 + 1 + 1 + 1 + 1 + 1 + 1 + 1 + 1 + 1 + 1 + 1 + 1 + 1 + 1 + 1 + 1 + 1 + 1, (Int.tmod (c + 1 + 1 + 1 + 1 + 1 + 1 + 1 + 1 + 1 + 1 + 1 + 1 + 1 + 1 + 1 + 1 + 1 + 1 + 1 + 1 + 1 + 1 + 1 + 1 + 1 + 1 + 1 + 1) 3 == 0), ⟨c + 1 + 1 + 1 + 1 + 1 + 1 + 1 + 1 + 1 + 1 + 1 + 1 + 1 + 1 + 1 + 1 + 1 + 1 + 1 + 1 + 1 + 1 + 1 + 1 + 1 + 1 + 1 + 1 + 1, c + 1 + 1 + 1 + 1 + 1 + 1 + 1 + 1 + 1 + 1 + 1 + 1 + 1 + 1 + 1 + 1 + 1 + 1 + 1 + 1 + 1 + 1 + 1 + 1 + 1 + 1 + 1 + 1 + 1 + 1, c + 1 + 1 + 1 + 1 + 1 + 1 + 1 + 1 + 1 + 1 + 1 + 1 + 1 + 1 + 1 + 1 + 1 + 1 + 1 + 1 + 1 + 1 + 1 + 1 + 1 + 1 + 1 + 1 + 1 + 1 + 1, c + 1 + 1 + 1 + 1 + 1 + 1 + 1 + 1 + 1 + 1 + 1 + 1 + 1 + 1 + 1 + 1 + 1 + 1 + 1 + 1 + 1 + 1 + 1 + 1 + 1 + 1 + 1 + 1 + 1 + 1 + 1 + 1⟩⟩, c + 1 + 1 + 1 + 1 + 1 + 1 + 1 + 1 + 1 + 1 + 1 + 1 + 1 + 1 + 1 + 1 + 1 + 1 + 1 + 1 + 1 + 1 + 1 + 1 + 1 + 1 + 1 + 1 + 1 + 1 + 1 + 1 + 1⟩, ⟨c + 1 + 1 + 1 + 1 + 1 + 1 + 1 + 1 + 1 + 1 + 1 + 1 + 1 + 1 + 1 + 1 + 1 + 1 + 1 + 1 + 1 + 1 + 1 + 1 + 1 + 1 + 1 + 1 + 1 + 1 + 1 + 1 + 1 + 1, (Int.tmod (c + 1 + 1 + 1 + 1 + 1 + 1 + 1 + 1 + 1 + 1 + 1 + 1 + 1 + 1 + 1 + 1 + 1 + 1 + 1 + 1 + 1 + 1 + 1 + 1 + 1 + 1 + 1 + 1 + 1 + 1 + 1 + 1 + 1 + 1 + 1) 3 == 0), ⟨c + 1 + 1 + 1 + 1 + 1 + 1 + 1 + 1 + 1 + 1 + 1 + 1 + 1 + 1 + 1 + 1 + 1 + 1 + 1 + 1 + 1 + 1 + 1 + 1 + 1 + 1 + 1 + 1 + 1 + 1 + 1 + 1 + 1 + 1 + 1 + 1, c + 1 + 1 + 1 + 1 + 1 + 1 + 1 + 1 + 1 + 1 + 1 + 1 + 1 + 1 + 1 + 1 + 1 + 1 + 1 + 1 + 1 + 1 + 1 + 1 + 1 + 1 + 1 + 1 + 1 + 1 + 1 + 1 + 1 + 1 + 1 + 1 + 1, c + 1 + 1 + 1 + 1 + 1 + 1 + 1 + 1 + 1 + 1 + 1 + 1 + 1 + 1 + 1 + 1 + 1 + 1 + 1 + 1 + 1 + 1 + 1 + 1 + 1 + 1 + 1 + 1 + 1 + 1 + 1 + 1 + 1 + 1 + 1 + 1 + 1 + 1, c + 1 + 1 + 1 + 1 + 1 + 1 + 1 + 1 + 1 + 1 + 1 + 1 + 1 + 1 + 1 + 1 + 1 + 1 + 1 + 1 + 1 + 1 + 1 + 1 + 1 + 1 + 1 + 1 + 1 + 1 + 1 + 1 + 1 + 1 + 1 + 1 + 1 + 1 + 1⟩⟩⟩
def mkEntryS (n : Nat) (k : Int) : List Entry := (List.range n).map (fun j : Nat => elEntry (k + 40 * j))
theorem mkEntryS_length (n : Nat) (k : Int) : (mkEntryS n k).length = n := by simp [mkEntryS]

def lb_w_eqEntryS_0 : PC := .seq (.r [.m 11 5, .m 12 0, .len 13 false 12, .bin 14 .lss 11 13] (.cond 14 .skip (.exit 0))) (.seq (.blk 1 (.seq (.rgd [] [.m 17 0, .m 18 5, .ia 19 .entry 17 18, .L 20 40 19, .m 21 1, .m 22 5, .ia 23 .entry 21 22, .L 24 40 23, .c 25 132 [20, 24], .bnot 26 25] (.ts [0, 1, 2, 3, 4, 5, 6, 7] (.one 8 true (.tk 9 .d)))) (.cond 26 (.r [.mv 4 .F] .ret) .skip))) (.reg [.m 15 5, .bin 16 .add 15 (.i 1), .m 5 16]))
def pf_w_eqEntryS : PF := ⟨[.t 4], .r [.mv 4 .F] (.seq (.r [.m 6 0, .len 7 false 6, .m 8 1, .len 9 false 8, .bin 10 .neq 7 9] (.cond 10 (.r [.mv 4 .F] .ret) .skip)) (.seq (.r [.mv 5 (.i 0)] (.blk 0 (.loop [0, 1, 5] lb_w_eqEntryS_0))) (.r [.mv 4 .T] .ret)))⟩
def c_w_eqEntryS : Fun := ⟨79, [], fun ts K => as2 ts fun t0 t1 => arC (pL .entry) t0 fun a => arC (pL .entry) t1 fun b => chk (a.length ≤ 2147483647) (K (tB (decide (a = b))) [])⟩
theorem run_w_eqEntryS (a : List (FT.Ty .entry)) (b : List (FT.Ty .entry)) (hpre : a.length ≤ 2147483647) : runK [c_w_eqEntry] (a.length + 1) [] pf_w_eqEntryS [tL false .entry a, tL false .entry b] fun r o => r = tB (decide (a = b)) ∧ o = [] := by
  conv => whnf
  refine sel_i (fun h => ?_) (fun h => ?_)
  · conv => whnf
    refine ⟨?_, rfl⟩
    simp at h
    simp
    intro e; subst e; simp at h
  · conv => whnf
    refine loop (α := Nat) (fun i => ⟨[(0, .v (.c (.sl false .entry 0))), (1, .v (.c (.sl false .entry 1))), (5, .v (.c (.int .i64 (i : Int))))], [(1, some (.flat false .entry none b)), (0, some (.flat false .entry none a))], nums.tail.tail, [], false, []⟩)
      (fun i => i ≤ a.length ∧ a.take i = b.take i) (fun i => a.length - i) (fun i R hI hR => ?_) 0 _ ⟨by simp, by simp⟩ (by omega)
    conv => whnf
    repeat' (first | (refine sel_i (fun h2 => ?_) (fun h2 => ?_) <;> conv => whnf) | (refine chk_c ?_ ?_ <;> conv => whnf))
    all_goals (have hl : a.length = b.length := by simp at h; omega)
    · exact ⟨by simp at h2; omega⟩
    · exact ⟨by simp at h2; omega⟩
    · exact ⟨by simp at h2; omega⟩
    · exact ⟨by simp at h2; omega⟩
    · refine ⟨?_, rfl⟩
      have hne : a ≠ b := fun e => by subst e; simp at h2
      simp [hne]
    · rename_i h3
      have hlt : i < a.length := by simpa using h3
      rw [wrap_id (n := (i : Int) + 1) (by omega) (by omega)]
      exact hR (i + 1) ⟨by omega, take_step (z := FT.zero .entry) hI.2 hlt (by omega) (nd_t h2)⟩ (by omega)
    · refine ⟨?_, rfl⟩
      have hge : a.length ≤ i := by simpa using h2
      have : a = b := take_all hI.2 hge (by omega)
      simp [this]
theorem ok_w_eqEntryS : FunOk Tryz.prog c_w_eqEntryS := funOk (eK ok_w_eqEntry eN) mixd Tryz.func79 (pf := pf_w_eqEntryS) (by kernel_rfl) fun ts K h => by
  obtain ⟨t0, t1, rfl, q0⟩ := as2_out h
  obtain ⟨a, rfl, q1⟩ := arC_out (rd_l .entry) q0
  obtain ⟨b, rfl, q2⟩ := arC_out (rd_l .entry) q1
  obtain ⟨hpre, hk⟩ := chk_o q2
  exact ⟨_, _, hk, nb 2 Tryz.f79 (by kernel_rfl), _, run_w_eqEntryS a b hpre⟩

def lb_w_markEntryS_0 : PC := .seq (.r [.m 6 5, .m 7 0, .len 8 false 7, .bin 9 .lss 6 8] (.cond 9 .skip (.exit 0))) (.seq (.blk 1 (.r [.m 12 0, .m 13 5, .m 14 1, .ia 15 .entry 12 13, .f 16 15 0, .f 17 16 0, .o 1 17 14] (.r [.m 18 1, .bin 19 .add 18 (.i 1), .m 1 19] (.r [.m 20 0, .m 21 5, .m 22 1, .bin 23 .rem 22 (.i 3), .bin 24 .eql 23 (.i 0), .ia 25 .entry 20 21, .f 26 25 0, .f 27 26 1, .o 1 27 24] (.r [.m 28 1, .bin 29 .add 28 (.i 1), .m 1 29] (.r [.m 30 0, .m 31 5, .m 32 1, .ia 33 .entry 30 31, .f 34 33 0, .f 35 34 2, .f 36 35 0, .o 1 36 32] (.r [.m 37 1, .bin 38 .add 37 (.i 1), .m 1 38] (.r [.m 39 0, .m 40 5, .m 41 1, .ia 42 .entry 39 40, .f 43 42 0, .f 44 43 2, .f 45 44 1, .o 1 45 41] (.r [.m 46 1, .bin 47 .add 46 (.i 1), .m 1 47] (.r [.m 48 0, .m 49 5, .m 50 1, .ia 51 .entry 48 49, .f 52 51 0, .f 53 52 2, .f 54 53 2, .o 1 54 50] (.r [.m 55 1, .bin 56 .add 55 (.i 1), .m 1 56] (.r [.m 57 0, .m 58 5, .m 59 1, .ia 60 .entry 57 58, .f 61 60 0, .f 62 61 2, .f 63 62 3, .o 1 63 59] (.r [.m 64 1, .bin 65 .add 64 (.i 1), .m 1 65] (.r [.m 66 0, .m 67 5, .m 68 1, .ia 69 .entry 66 67, .f 70 69 6, .f 71 70 0, .o 1 71 68] (.r [.m 72 1, .bin 73 .add 72 (.i 1), .m 1 73] (.r [.m 74 0, .m 75 5, .m 76 1, .ia 77 .entry 74 75, .f 78 77 6, .f 79 78 1, .o 1 79 76] (.r [.m 80 1, .bin 81 .add 80 (.i 1), .m 1 81] (.r [.m 82 0, .m 83 5, .m 84 1, .ia 85 .entry 82 83, .f 86 85 6, .f 87 86 2, .o 1 87 84] (.r [.m 88 1, .bin 89 .add 88 (.i 1), .m 1 89] (.r [.m 90 0, .m 91 5, .m 92 1, .ia 93 .entry 90 91, .f 94 93 6, .f 95 94 3, .o 1 95 92] (.r [.m 96 1, .bin 97 .add 96 (.i 1), .m 1 97] (.r [.m 98 0, .m 99 5, .m 100 1, .ia 101 .entry 98 99, .f 102 101 6, .f 103 102 4, .o 1 103 100] (.r [.m 104 1, .bin 105 .add 104 (.i 1), .m 1 105] (.r [.m 106 0, .m 107 5, .m 108 1, .bin 109 .rem 108 (.i 3), .bin 110 .eql 109 (.i 0), .ia 111 .entry 106 107, .f 112 111 11, .o 1 112 110] (.r [.m 113 1, .bin 114 .add 113 (.i 1), .m 1 114] (.r [.m 115 0, .m 116 5, .m 117 1, .ia 118 .entry 115 116, .f 119 118 12, .f 120 119 0, .o 1 120 117] (.r [.m 121 1, .bin 122 .add 121 (.i 1), .m 1 122] (.r [.m 123 0, .m 124 5, .m 125 1, .ia 126 .entry 123 124, .f 127 126 12, .f 128 127 1, .o 1 128 125] (.r [.m 129 1, .bin 130 .add 129 (.i 1), .m 1 130] (.r [.m 131 0, .m 132 5, .m 133 1, .ia 134 .entry 131 132, .f 135 134 12, .f 136 135 2, .f 137 136 0, .o 1 137 133] (.r [.m 138 1, .bin 139 .add 138 (.i 1), .m 1 139] (.r [.m 140 0, .m 141 5, .m 142 1, .bin 143 .rem 142 (.i 3), .bin 144 .eql 143 (.i 0), .ia 145 .entry 140 141, .f 146 145 12, .f 147 146 2, .f 148 147 1, .o 1 148 144] (.r [.m 149 1, .bin 150 .add 149 (.i 1), .m 1 150] (.r [.m 151 0, .m 152 5, .m 153 1, .ia 154 .entry 151 152, .f 155 154 12, .f 156 155 2, .f 157 156 2, .f 158 157 0, .o 1 158 153] (.r [.m 159 1, .bin 160 .add 159 (.i 1), .m 1 160] (.r [.m 161 0, .m 162 5, .m 163 1, .ia 164 .entry 161 162, .f 165 164 12, .f 166 165 2, .f 167 166 2, .f 168 167 1, .o 1 168 163] (.r [.m 169 1, .bin 170 .add 169 (.i 1), .m 1 170] (.r [.m 171 0, .m 172 5, .m 173 1, .ia 174 .entry 171 172, .f 175 174 12, .f 176 175 2, .f 177 176 2, .f 178 177 2, .o 1 178 173] (.r [.m 179 1, .bin 180 .add 179 (.i 1), .m 1 180] (.r [.m 181 0, .m 182 5, .m 183 1, .ia 184 .entry 181 182, .f 185 184 12, .f 186 185 2, .f 187 186 2, .f 188 187 3, .o 1 188 183] (.r [.m 189 1, .bin 190 .add 189 (.i 1), .m 1 190] (.r [.m 191 0, .m 192 5, .m 193 1, .ia 194 .entry 191 192, .f 195 194 12, .f 196 195 8, .f 197 196 0, .o 1 197 193] (.r [.m 198 1, .bin 199 .add 198 (.i 1), .m 1 199] (.r [.m 200 0, .m 201 5, .m 202 1, .bin 203 .rem 202 (.i 3), .bin 204 .eql 203 (.i 0), .ia 205 .entry 200 201, .f 206 205 12, .f 207 206 8, .f 208 207 1, .o 1 208 204] (.r [.m 209 1, .bin 210 .add 209 (.i 1), .m 1 210] (.r [.m 211 0, .m 212 5, .m 213 1, .ia 214 .entry 211 212, .f 215 214 12, .f 216 215 8, .f 217 216 2, .f 218 217 0, .o 1 218 213] (.r [.m 219 1, .bin 220 .add 219 (.i 1), .m 1 220] (.r [.m 221 0, .m 222 5, .m 223 1, .ia 224 .entry 221 222, .f 225 224 12, .f 226 225 8, .f 227 226 2, .f 228 227 1, .o 1 228 223] (.r [.m 229 1, .bin 230 .add 229 (.i 1), .m 1 230] (.r [.m 231 0, .m 232 5, .m 233 1, .ia 234 .entry 231 232, .f 235 234 12, .f 236 235 8, .f 237 236 2, .f 238 237 2, .o 1 238 233] (.r [.m 239 1, .bin 240 .add 239 (.i 1), .m 1 240] (.r [.m 241 0, .m 242 5, .m 243 1, .ia 244 .entry 241 242, .f 245 244 12, .f 246 245 8, .f 247 246 2, .f 248 247 3, .o 1 248 243] (.r [.m 249 1, .bin 250 .add 249 (.i 1), .m 1 250] (.r [.m 251 0, .m 252 5, .m 253 1, .ia 254 .entry 251 252, .f 255 254 12, .f 256 255 14, .o 1 256 253] (.r [.m 257 1, .bin 258 .add 257 (.i 1), .m 1 258] (.r [.m 259 0, .m 260 5, .m 261 1, .ia 262 .entry 259 260, .f 263 262 12, .f 264 263 15, .f 265 264 0, .o 1 265 261] (.r [.m 266 1, .bin 267 .add 266 (.i 1), .m 1 267] (.r [.m 268 0, .m 269 5, .m 270 1, .bin 271 .rem 270 (.i 3), .bin 272 .eql 271 (.i 0), .ia 273 .entry 268 269, .f 274 273 12, .f 275 274 15, .f 276 275 1, .o 1 276 272] (.r [.m 277 1, .bin 278 .add 277 (.i 1), .m 1 278] (.r [.m 279 0, .m 280 5, .m 281 1, .ia 282 .entry 279 280, .f 283 282 12, .f 284 283 15, .f 285 284 2, .f 286 285 0, .o 1 286 281] (.r [.m 287 1, .bin 288 .add 287 (.i 1), .m 1 288] (.r [.m 289 0, .m 290 5, .m 291 1, .ia 292 .entry 289 290, .f 293 292 12, .f 294 293 15, .f 295 294 2, .f 296 295 1, .o 1 296 291] (.r [.m 297 1, .bin 298 .add 297 (.i 1), .m 1 298] (.r [.m 299 0, .m 300 5, .m 301 1, .ia 302 .entry 299 300, .f 303 302 12, .f 304 303 15, .f 305 304 2, .f 306 305 2, .o 1 306 301] (.r [.m 307 1, .bin 308 .add 307 (.i 1), .m 1 308] (.r [.m 309 0, .m 310 5, .m 311 1, .ia 312 .entry 309 310, .f 313 312 12, .f 314 313 15, .f 315 314 2, .f 316 315 3, .o 1 316 311] (.r [.m 317 1, .bin 318 .add 317 (.i 1), .m 1 318] (.r [.m 319 0, .m 320 5, .m 321 1, .ia 322 .entry 319 320, .f 323 322 12, .f 324 323 21, .o 1 324 321] (.r [.m 325 1, .bin 326 .add 325 (.i 1), .m 1 326] (.r [.m 327 0, .m 328 5, .m 329 1, .ia 330 .entry 327 328, .f 331 330 34, .f 332 331 0, .o 1 332 329] (.r [.m 333 1, .bin 334 .add 333 (.i 1), .m 1 334] (.r [.m 335 0, .m 336 5, .m 337 1, .bin 338 .rem 337 (.i 3), .bin 339 .eql 338 (.i 0), .ia 340 .entry 335 336, .f 341 340 34, .f 342 341 1, .o 1 342 339] (.r [.m 343 1, .bin 344 .add 343 (.i 1), .m 1 344] (.r [.m 345 0, .m 346 5, .m 347 1, .ia 348 .entry 345 346, .f 349 348 34, .f 350 349 2, .f 351 350 0, .o 1 351 347] (.r [.m 352 1, .bin 353 .add 352 (.i 1), .m 1 353] (.r [.m 354 0, .m 355 5, .m 356 1, .ia 357 .entry 354 355, .f 358 357 34, .f 359 358 2, .f 360 359 1, .o 1 360 356] (.r [.m 361 1, .bin 362 .add 361 (.i 1), .m 1 362] (.r [.m 363 0, .m 364 5, .m 365 1, .ia 366 .entry 363 364, .f 367 366 34, .f 368 367 2, .f 369 368 2, .o 1 369 365] (.r [.m 370 1, .bin 371 .add 370 (.i 1), .m 1 371] (.r [.m 372 0, .m 373 5, .m 374 1, .ia 375 .entry 372 373, .f 376 375 34, .f 377 376 2, .f 378 377 3, .o 1 378 374] (.reg [.m 379 1, .bin 380 .add 379 (.i 1), .m 1 380]))))))))))))))))))))))))))))))))))))))))))))))))))))))))))))))))))))))))))))))))) (.reg [.m 10 5, .bin 11 .add 10 (.i 1), .m 5 11]))
def pf_w_markEntryS : PF := ⟨[.t 4], .r [.mv 4 (.i 0)] (.seq (.r [.mv 5 (.i 0)] (.blk 0 (.loop [0, 1, 5] lb_w_markEntryS_0))) (.r [.m 381 1, .m 4 381] .ret))⟩
def c_w_markEntryS : Fun := ⟨82, [true, false], fun ts K => as2 ts fun t0 t1 => arC (pO .entry) t0 fun a => arC (pI .i64) t1 fun k => chk (0 ≤ k ∧ k ≤ 1125899906842624 ∧ a.length ≤ 2147483647) (K (tN (k + 40 * a.length)) ([tL true .entry (mkEntryS a.length k)]))⟩
set_option maxHeartbeats 4000000 in
theorem run_w_markEntryS (a : List (FT.Ty .entry)) (k : Int) (hpre : 0 ≤ k ∧ k ≤ 1125899906842624 ∧ a.length ≤ 2147483647) : runK [] (a.length + 1) [true, false] pf_w_markEntryS [tL true .entry a, tI .i64 k] fun r o => r = tN (k + 40 * a.length) ∧ o = [tL true .entry (mkEntryS a.length k)] := by
  have hml : (mkEntryS a.length k).length = a.length := by simp [mkEntryS]
  conv => whnf
  refine loop (α := Nat × Int × List Entry) (fun p => ⟨[(0, .v (.c (.sl false .entry 0))), (1, .v (.c (.int .i64 p.2.1))), (5, .v (.c (.int .i64 (p.1 : Int))))], [(0, some (.flat true .entry none p.2.2))], nums.tail, [.v (.c (.sl false .entry 0))], false, []⟩)
      (fun p => p.1 ≤ a.length ∧ p.2.1 = k + 40 * p.1 ∧ p.2.2 = (mkEntryS a.length k).take p.1 ++ a.drop p.1) (fun p => a.length - p.1) (fun p R hI hR => ?_) (0, k, a) _ ⟨by simp, by simp, by simp⟩ (by simp)
  obtain ⟨i, c, xs⟩ := p
  obtain ⟨hi, hc, hx⟩ := hI
  dsimp only at hi hc hx
  have hlen : xs.length = a.length := by rw [hx]; simp [hml]; omega
  dsimp only
  conv => whnf
  refine sel_i (fun h2 => ?_) (fun h2 => ?_)
  · have hlt : i < a.length := by simp at h2; omega
    have hget : ∀ x : Entry, (xs.set i x).getD i (FT.zero .entry) = x := fun x => by simp [List.getD_eq_getElem?_getD, hlen, hlt]
    have hmk : (mkEntryS a.length k)[i]? = some (elEntry c) := by simp [mkEntryS, hlt, hc]
    conv => whnf
    repeat' (refine chk_c ?_ ?_ <;> (conv => whnf) <;> (try simp (disch := omega) only [wrap_id, Int.toNat_natCast, hget, List.set_set]))
    all_goals first
      | (refine ⟨?_⟩; omega)
      | (refine ⟨?_⟩; simp; done)
      | (refine ⟨?_⟩; simp; omega)
      | skip
    exact hR (i + 1, c + 1 + 1 + 1 + 1 + 1 + 1 + 1 + 1 + 1 + 1 + 1 + 1 + 1 + 1 + 1 + 1 + 1 + 1 + 1 + 1 + 1 + 1 + 1 + 1 + 1 + 1 + 1 + 1 + 1 + 1 + 1 + 1 + 1 + 1 + 1 + 1 + 1 + 1 + 1 + 1, xs.set i (elEntry c)) ⟨by omega, by simp; omega, by rw [hx]; exact set_mid hml hlt hmk⟩ (by simp; omega)
  · have hge : i = a.length := by simp at h2; omega
    subst hge
    conv => whnf
    refine ⟨by rw [hc], ?_⟩
    rw [hx, List.take_of_length_le (by omega), List.drop_eq_nil_of_le (by omega), List.append_nil]
theorem ok_w_markEntryS : FunOk Tryz.prog c_w_markEntryS := funOk (eN) mixd Tryz.func82 (pf := pf_w_markEntryS) (by kernel_rfl) fun ts K h => by
  obtain ⟨t0, t1, rfl, q0⟩ := as2_out h
  obtain ⟨a, rfl, q1⟩ := arC_out (rd_o .entry) q0
  obtain ⟨k, rfl, q2⟩ := arC_out (rd_int .i64) q1
  obtain ⟨hpre, hk⟩ := chk_o q2
  exact ⟨_, _, hk, nb 2 Tryz.f82 (by kernel_rfl), _, run_w_markEntryS a k hpre⟩

def lb_w_heldEntryS_0 : PC := .seq (.r [.m 6 5, .m 7 0, .len 8 false 7, .bin 9 .lss 6 8] (.cond 9 .skip (.exit 0))) (.seq (.blk 1 (.seq (.r [.m 12 0, .m 13 5, .ia 14 .entry 12 13, .f 15 14 0, .f 16 15 0, .l 17 1 16, .m 18 1, .bin 19 .neq 17 18] (.cond 19 (.r [.mv 4 (.i (-1))] .ret) .skip)) (.r [.m 20 1, .bin 21 .add 20 (.i 1), .m 1 21] (.seq (.r [.m 22 0, .m 23 5, .ia 24 .entry 22 23, .f 25 24 0, .f 26 25 1, .l 27 1 26, .m 28 1, .bin 29 .rem 28 (.i 3), .bin 30 .eql 29 (.i 0), .eqs 31 false [.b] true 27 30] (.cond 31 (.r [.mv 4 (.i (-1))] .ret) .skip)) (.r [.m 32 1, .bin 33 .add 32 (.i 1), .m 1 33] (.seq (.r [.m 34 0, .m 35 5, .ia 36 .entry 34 35, .f 37 36 0, .f 38 37 2, .f 39 38 0, .l 40 1 39, .m 41 1, .bin 42 .neq 40 41] (.cond 42 (.r [.mv 4 (.i (-1))] .ret) .skip)) (.r [.m 43 1, .bin 44 .add 43 (.i 1), .m 1 44] (.seq (.r [.m 45 0, .m 46 5, .ia 47 .entry 45 46, .f 48 47 0, .f 49 48 2, .f 50 49 1, .l 51 1 50, .m 52 1, .bin 53 .neq 51 52] (.cond 53 (.r [.mv 4 (.i (-1))] .ret) .skip)) (.r [.m 54 1, .bin 55 .add 54 (.i 1), .m 1 55] (.seq (.r [.m 56 0, .m 57 5, .ia 58 .entry 56 57, .f 59 58 0, .f 60 59 2, .f 61 60 2, .l 62 1 61, .m 63 1, .bin 64 .neq 62 63] (.cond 64 (.r [.mv 4 (.i (-1))] .ret) .skip)) (.r [.m 65 1, .bin 66 .add 65 (.i 1), .m 1 66] (.seq (.r [.m 67 0, .m 68 5, .ia 69 .entry 67 68, .f 70 69 0, .f 71 70 2, .f 72 71 3, .l 73 1 72, .m 74 1, .bin 75 .neq 73 74] (.cond 75 (.r [.mv 4 (.i (-1))] .ret) .skip)) (.r [.m 76 1, .bin 77 .add 76 (.i 1), .m 1 77] (.seq (.r [.m 78 0, .m 79 5, .ia 80 .entry 78 79, .f 81 80 6, .f 82 81 0, .l 83 1 82, .m 84 1, .bin 85 .neq 83 84] (.cond 85 (.r [.mv 4 (.i (-1))] .ret) .skip)) (.r [.m 86 1, .bin 87 .add 86 (.i 1), .m 1 87] (.seq (.r [.m 88 0, .m 89 5, .ia 90 .entry 88 89, .f 91 90 6, .f 92 91 1, .l 93 1 92, .m 94 1, .bin 95 .neq 93 94] (.cond 95 (.r [.mv 4 (.i (-1))] .ret) .skip)) (.r [.m 96 1, .bin 97 .add 96 (.i 1), .m 1 97] (.seq (.r [.m 98 0, .m 99 5, .ia 100 .entry 98 99, .f 101 100 6, .f 102 101 2, .l 103 1 102, .m 104 1, .bin 105 .neq 103 104] (.cond 105 (.r [.mv 4 (.i (-1))] .ret) .skip)) (.r [.m 106 1, .bin 107 .add 106 (.i 1), .m 1 107] (.seq (.r [.m 108 0, .m 109 5, .ia 110 .entry 108 109, .f 111 110 6, .f 112 111 3, .l 113 1 112, .m 114 1, .bin 115 .neq 113 114] (.cond 115 (.r [.mv 4 (.i (-1))] .ret) .skip)) (.r [.m 116 1, .bin 117 .add 116 (.i 1), .m 1 117] (.seq (.r [.m 118 0, .m 119 5, .ia 120 .entry 118 119, .f 121 120 6, .f 122 121 4, .l 123 1 122, .m 124 1, .bin 125 .neq 123 124] (.cond 125 (.r [.mv 4 (.i (-1))] .ret) .skip)) (.r [.m 126 1, .bin 127 .add 126 (.i 1), .m 1 127] (.seq (.r [.m 128 0, .m 129 5, .ia 130 .entry 128 129, .f 131 130 11, .l 132 1 131, .m 133 1, .bin 134 .rem 133 (.i 3), .bin 135 .eql 134 (.i 0), .eqs 136 false [.b] true 132 135] (.cond 136 (.r [.mv 4 (.i (-1))] .ret) .skip)) (.r [.m 137 1, .bin 138 .add 137 (.i 1), .m 1 138] (.seq (.r [.m 139 0, .m 140 5, .ia 141 .entry 139 140, .f 142 141 12, .f 143 142 0, .l 144 1 143, .m 145 1, .bin 146 .neq 144 145] (.cond 146 (.r [.mv 4 (.i (-1))] .ret) .skip)) (.r [.m 147 1, .bin 148 .add 147 (.i 1), .m 1 148] (.seq (.r [.m 149 0, .m 150 5, .ia 151 .entry 149 150, .f 152 151 12, .f 153 152 1, .l 154 1 153, .m 155 1, .bin 156 .neq 154 155] (.cond 156 (.r [.mv 4 (.i (-1))] .ret) .skip)) (.r [.m 157 1, .bin 158 .add 157 (.i 1), .m 1 158] (.seq (.r [.m 159 0, .m 160 5, .ia 161 .entry 159 160, .f 162 161 12, .f 163 162 2, .f 164 163 0, .l 165 1 164, .m 166 1, .bin 167 .neq 165 166] (.cond 167 (.r [.mv 4 (.i (-1))] .ret) .skip)) (.r [.m 168 1, .bin 169 .add 168 (.i 1), .m 1 169] (.seq (.r [.m 170 0, .m 171 5, .ia 172 .entry 170 171, .f 173 172 12, .f 174 173 2, .f 175 174 1, .l 176 1 175, .m 177 1, .bin 178 .rem 177 (.i 3), .bin 179 .eql 178 (.i 0), .eqs 180 false [.b] true 176 179] (.cond 180 (.r [.mv 4 (.i (-1))] .ret) .skip)) (.r [.m 181 1, .bin 182 .add 181 (.i 1), .m 1 182] (.seq (.r [.m 183 0, .m 184 5, .ia 185 .entry 183 184, .f 186 185 12, .f 187 186 2, .f 188 187 2, .f 189 188 0, .l 190 1 189, .m 191 1, .bin 192 .neq 190 191] (.cond 192 (.r [.mv 4 (.i (-1))] .ret) .skip)) (.r [.m 193 1, .bin 194 .add 193 (.i 1), .m 1 194] (.seq (.r [.m 195 0, .m 196 5, .ia 197 .entry 195 196, .f 198 197 12, .f 199 198 2, .f 200 199 2, .f 201 200 1, .l 202 1 201, .m 203 1, .bin 204 .neq 202 203] (.cond 204 (.r [.mv 4 (.i (-1))] .ret) .skip)) (.r [.m 205 1, .bin 206 .add 205 (.i 1), .m 1 206] (.seq (.r [.m 207 0, .m 208 5, .ia 209 .entry 207 208, .f 210 209 12, .f 211 210 2, .f 212 211 2, .f 213 212 2, .l 214 1 213, .m 215 1, .bin 216 .neq 214 215] (.cond 216 (.r [.mv 4 (.i (-1))] .ret) .skip)) (.r [.m 217 1, .bin 218 .add 217 (.i 1), .m 1 218] (.seq (.r [.m 219 0, .m 220 5, .ia 221 .entry 219 220, .f 222 221 12, .f 223 222 2, .f 224 223 2, .f 225 224 3, .l 226 1 225, .m 227 1, .bin 228 .neq 226 227] (.cond 228 (.r [.mv 4 (.i (-1))] .ret) .skip)) (.r [.m 229 1, .bin 230 .add 229 (.i 1), .m 1 230] (.seq (.r [.m 231 0, .m 232 5, .ia 233 .entry 231 232, .f 234 233 12, .f 235 234 8, .f 236 235 0, .l 237 1 236, .m 238 1, .bin 239 .neq 237 238] (.cond 239 (.r [.mv 4 (.i (-1))] .ret) .skip)) (.r [.m 240 1, .bin 241 .add 240 (.i 1), .m 1 241] (.seq (.r [.m 242 0, .m 243 5, .ia 244 .entry 242 243, .f 245 244 12, .f 246 245 8, .f 247 246 1, .l 248 1 247, .m 249 1, .bin 250 .rem 249 (.i 3), .bin 251 .eql 250 (.i 0), .eqs 252 false [.b] true 248 251] (.cond 252 (.r [.mv 4 (.i (-1))] .ret) .skip)) (.r [.m 253 1, .bin 254 .add 253 (.i 1), .m 1 254] (.seq (.r [.m 255 0, .m 256 5, .ia 257 .entry 255 256, .f 258 257 12, .f 259 258 8, .f 260 259 2, .f 261 260 0, .l 262 1 261, .m 263 1, .bin 264 .neq 262 263] (.cond 264 (.r [.mv 4 (.i (-1))] .ret) .skip)) (.r [.m 265 1, .bin 266 .add 265 (.i 1), .m 1 266] (.seq (.r [.m 267 0, .m 268 5, .ia 269 .entry 267 268, .f 270 269 12, .f 271 270 8, .f 272 271 2, .f 273 272 1, .l 274 1 273, .m 275 1, .bin 276 .neq 274 275] (.cond 276 (.r [.mv 4 (.i (-1))] .ret) .skip)) (.r [.m 277 1, .bin 278 .add 277 (.i 1), .m 1 278] (.seq (.r [.m 279 0, .m 280 5, .ia 281 .entry 279 280, .f 282 281 12, .f 283 282 8, .f 284 283 2, .f 285 284 2, .l 286 1 285, .m 287 1, .bin 288 .neq 286 287] (.cond 288 (.r [.mv 4 (.i (-1))] .ret) .skip)) (.r [.m 289 1, .bin 290 .add 289 (.i 1), .m 1 290] (.seq (.r [.m 291 0, .m 292 5, .ia 293 .entry 291 292, .f 294 293 12, .f 295 294 8, .f 296 295 2, .f 297 296 3, .l 298 1 297, .m 299 1, .bin 300 .neq 298 299] (.cond 300 (.r [.mv 4 (.i (-1))] .ret) .skip)) (.r [.m 301 1, .bin 302 .add 301 (.i 1), .m 1 302] (.seq (.r [.m 303 0, .m 304 5, .ia 305 .entry 303 304, .f 306 305 12, .f 307 306 14, .l 308 1 307, .m 309 1, .bin 310 .neq 308 309] (.cond 310 (.r [.mv 4 (.i (-1))] .ret) .skip)) (.r [.m 311 1, .bin 312 .add 311 (.i 1), .m 1 312] (.seq (.r [.m 313 0, .m 314 5, .ia 315 .entry 313 314, .f 316 315 12, .f 317 316 15, .f 318 317 0, .l 319 1 318, .m 320 1, .bin 321 .neq 319 320] (.cond 321 (.r [.mv 4 (.i (-1))] .ret) .skip)) (.r [.m 322 1, .bin 323 .add 322 (.i 1), .m 1 323] (.seq (.r [.m 324 0, .m 325 5, .ia 326 .entry 324 325, .f 327 326 12, .f 328 327 15, .f 329 328 1, .l 330 1 329, .m 331 1, .bin 332 .rem 331 (.i 3), .bin 333 .eql 332 (.i 0), .eqs 334 false [.b] true 330 333] (.cond 334 (.r [.mv 4 (.i (-1))] .ret) .skip)) (.r [.m 335 1, .bin 336 .add 335 (.i 1), .m 1 336] (.seq (.r [.m 337 0, .m 338 5, .ia 339 .entry 337 338, .f 340 339 12, .f 341 340 15, .f 342 341 2, .f 343 342 0, .l 344 1 343, .m 345 1, .bin 346 .neq 344 345] (.cond 346 (.r [.mv 4 (.i (-1))] .ret) .skip)) (.r [.m 347 1, .bin 348 .add 347 (.i 1), .m 1 348] (.seq (.r [.m 349 0, .m 350 5, .ia 351 .entry 349 350, .f 352 351 12, .f 353 352 15, .f 354 353 2, .f 355 354 1, .l 356 1 355, .m 357 1, .bin 358 .neq 356 357] (.cond 358 (.r [.mv 4 (.i (-1))] .ret) .skip)) (.r [.m 359 1, .bin 360 .add 359 (.i 1), .m 1 360] (.seq (.r [.m 361 0, .m 362 5, .ia 363 .entry 361 362, .f 364 363 12, .f 365 364 15, .f 366 365 2, .f 367 366 2, .l 368 1 367, .m 369 1, .bin 370 .neq 368 369] (.cond 370 (.r [.mv 4 (.i (-1))] .ret) .skip)) (.r [.m 371 1, .bin 372 .add 371 (.i 1), .m 1 372] (.seq (.r [.m 373 0, .m 374 5, .ia 375 .entry 373 374, .f 376 375 12, .f 377 376 15, .f 378 377 2, .f 379 378 3, .l 380 1 379, .m 381 1, .bin 382 .neq 380 381] (.cond 382 (.r [.mv 4 (.i (-1))] .ret) .skip)) (.r [.m 383 1, .bin 384 .add 383 (.i 1), .m 1 384] (.seq (.r [.m 385 0, .m 386 5, .ia 387 .entry 385 386, .f 388 387 12, .f 389 388 21, .l 390 1 389, .m 391 1, .bin 392 .neq 390 391] (.cond 392 (.r [.mv 4 (.i (-1))] .ret) .skip)) (.r [.m 393 1, .bin 394 .add 393 (.i 1), .m 1 394] (.seq (.r [.m 395 0, .m 396 5, .ia 397 .entry 395 396, .f 398 397 34, .f 399 398 0, .l 400 1 399, .m 401 1, .bin 402 .neq 400 401] (.cond 402 (.r [.mv 4 (.i (-1))] .ret) .skip)) (.r [.m 403 1, .bin 404 .add 403 (.i 1), .m 1 404] (.seq (.r [.m 405 0, .m 406 5, .ia 407 .entry 405 406, .f 408 407 34, .f 409 408 1, .l 410 1 409, .m 411 1, .bin 412 .rem 411 (.i 3), .bin 413 .eql 412 (.i 0), .eqs 414 false [.b] true 410 413] (.cond 414 (.r [.mv 4 (.i (-1))] .ret) .skip)) (.r [.m 415 1, .bin 416 .add 415 (.i 1), .m 1 416] (.seq (.r [.m 417 0, .m 418 5, .ia 419 .entry 417 418, .f 420 419 34, .f 421 420 2, .f 422 421 0, .l 423 1 422, .m 424 1, .bin 425 .neq 423 424] (.cond 425 (.r [.mv 4 (.i (-1))] .ret) .skip)) (.r [.m 426 1, .bin 427 .add 426 (.i 1), .m 1 427] (.seq (.r [.m 428 0, .m 429 5, .ia 430 .entry 428 429, .f 431 430 34, .f 432 431 2, .f 433 432 1, .l 434 1 433, .m 435 1, .bin 436 .neq 434 435] (.cond 436 (.r [.mv 4 (.i (-1))] .ret) .skip)) (.r [.m 437 1, .bin 438 .add 437 (.i 1), .m 1 438] (.seq (.r [.m 439 0, .m 440 5, .ia 441 .entry 439 440, .f 442 441 34, .f 443 442 2, .f 444 443 2, .l 445 1 444, .m 446 1, .bin 447 .neq 445 446] (.cond 447 (.r [.mv 4 (.i (-1))] .ret) .skip)) (.r [.m 448 1, .bin 449 .add 448 (.i 1), .m 1 449] (.seq (.r [.m 450 0, .m 451 5, .ia 452 .entry 450 451, .f 453 452 34, .f 454 453 2, .f 455 454 3, .l 456 1 455, .m 457 1, .bin 458 .neq 456 457] (.cond 458 (.r [.mv 4 (.i (-1))] .ret) .skip)) (.reg [.m 459 1, .bin 460 .add 459 (.i 1), .m 1 460]))))))))))))))))))))))))))))))))))))))))))))))))))))))))))))))))))))))))))))))))) (.reg [.m 10 5, .bin 11 .add 10 (.i 1), .m 5 11]))
def pf_w_heldEntryS : PF := ⟨[.t 4], .r [.mv 4 (.i 0)] (.seq (.r [.mv 5 (.i 0)] (.blk 0 (.loop [0, 1, 5] lb_w_heldEntryS_0))) (.r [.m 461 1, .m 4 461] .ret))⟩
def c_w_heldEntryS : Fun := ⟨84, [], fun ts K => as2 ts fun t0 t1 => arC (pL .entry) t0 fun a => arC (pI .i64) t1 fun k => chk (0 ≤ k ∧ k ≤ 1125899906842624 ∧ a.length ≤ 2147483647) (K (tN (hres (a = mkEntryS a.length k) (k + 40 * a.length))) [])⟩
set_option maxHeartbeats 4000000 in
theorem run_w_heldEntryS (a : List (FT.Ty .entry)) (k : Int) (hpre : 0 ≤ k ∧ k ≤ 1125899906842624 ∧ a.length ≤ 2147483647) : runK [] (a.length + 1) [] pf_w_heldEntryS [tL false .entry a, tI .i64 k] fun r o => r = tN (hres (a = mkEntryS a.length k) (k + 40 * a.length)) ∧ o = [] := by
  have hml : (mkEntryS a.length k).length = a.length := by simp [mkEntryS]
  conv => whnf
  refine loop (α := Nat × Int) (fun p => ⟨[(0, .v (.c (.sl false .entry 0))), (1, .v (.c (.int .i64 p.2))), (5, .v (.c (.int .i64 (p.1 : Int))))], [(0, some (.flat false .entry none a))], nums.tail, [], false, []⟩)
      (fun p => p.1 ≤ a.length ∧ p.2 = k + 40 * p.1 ∧ a.take p.1 = (mkEntryS a.length k).take p.1) (fun p => a.length - p.1) (fun p R hI hR => ?_) (0, k) _ ⟨by simp, by simp, by simp⟩ (by simp)
  obtain ⟨i, c⟩ := p
  obtain ⟨hi, hc, hx⟩ := hI
  dsimp only at hi hc hx
  dsimp only
  conv => whnf
  refine sel_i (fun h2 => ?_) (fun h2 => ?_)
  · have hlt : i < a.length := by simp at h2; omega
    have hmk : (mkEntryS a.length k).getD i (FT.zero .entry) = elEntry c := by simp [mkEntryS, List.getD_eq_getElem?_getD, hlt, hc]
    have hne : a.getD i (FT.zero .entry) ≠ elEntry c → a ≠ mkEntryS a.length k := fun h e => h (by rw [← hmk, ← e])
    conv => whnf
    repeat' (first | (refine sel_i (fun h2 => ?_) (fun h2 => ?_) <;> conv => whnf) | (refine chk_c ?_ ?_ <;> conv => whnf))
    all_goals first
      | (refine ⟨?_⟩; omega)
      | (refine ⟨?_⟩; simp; done)
      | (refine ⟨?_⟩; simp; omega)
      | (refine ⟨?_, rfl⟩
         rw [hres_no (hne (fun e => by
           simp (disch := omega) only [wrap_id, Int.toNat_natCast, e] at h2
           simp [elEntry] at h2))])
      | skip
    rename_i e0 e1 e2 e3 e4 e5 e6 e7 e8 e9 e10 e11 e12 e13 e14 e15 e16 e17 e18 e19 e20 e21 e22 e23 e24 e25 e26 e27 e28 e29 e30 e31 e32 e33 e34 e35 e36 e37 e38 e39
    simp (disch := omega) only [wrap_id, Int.toNat_natCast] at e1 e2 e3 e4 e5 e6 e7 e8 e9 e10 e11 e12 e13 e14 e15 e16 e17 e18 e19 e20 e21 e22 e23 e24 e25 e26 e27 e28 e29 e30 e31 e32 e33 e34 e35 e36 e37 e38 e39 h2 ⊢
    have he : a.getD i (FT.zero .entry) = elEntry c := by
      generalize a.getD i (FT.zero .entry) = v at e1 e2 e3 e4 e5 e6 e7 e8 e9 e10 e11 e12 e13 e14 e15 e16 e17 e18 e19 e20 e21 e22 e23 e24 e25 e26 e27 e28 e29 e30 e31 e32 e33 e34 e35 e36 e37 e38 e39 h2
      obtain ⟨⟨v0, v1, ⟨v2, v3, v4, v5⟩⟩, ⟨v6, v7, v8, v9, v10⟩, v11, ⟨v12, v13, ⟨v14, v15, ⟨v16, v17, v18, v19⟩⟩, ⟨v20, v21, ⟨v22, v23, v24, v25⟩⟩, v26, ⟨v27, v28, ⟨v29, v30, v31, v32⟩⟩, v33⟩, ⟨v34, v35, ⟨v36, v37, v38, v39⟩⟩⟩ := v
      simp at e1 e2 e3 e4 e5 e6 e7 e8 e9 e10 e11 e12 e13 e14 e15 e16 e17 e18 e19 e20 e21 e22 e23 e24 e25 e26 e27 e28 e29 e30 e31 e32 e33 e34 e35 e36 e37 e38 e39 h2
      simp [elEntry, *]
    exact hR (i + 1, c + 1 + 1 + 1 + 1 + 1 + 1 + 1 + 1 + 1 + 1 + 1 + 1 + 1 + 1 + 1 + 1 + 1 + 1 + 1 + 1 + 1 + 1 + 1 + 1 + 1 + 1 + 1 + 1 + 1 + 1 + 1 + 1 + 1 + 1 + 1 + 1 + 1 + 1 + 1 + 1) ⟨by omega, by simp; omega, take_step hx hlt (by omega) (he.trans hmk.symm)⟩ (by simp; omega)
  · have hge : i = a.length := by simp at h2; omega
    subst hge
    conv => whnf
    refine ⟨?_, rfl⟩
    rw [List.take_of_length_le (by omega), List.take_of_length_le (by omega)] at hx
    rw [hres_yes hx, hc]
theorem ok_w_heldEntryS : FunOk Tryz.prog c_w_heldEntryS := funOk (eN) mixd Tryz.func84 (pf := pf_w_heldEntryS) (by kernel_rfl) fun ts K h => by
  obtain ⟨t0, t1, rfl, q0⟩ := as2_out h
  obtain ⟨a, rfl, q1⟩ := arC_out (rd_l .entry) q0
  obtain ⟨k, rfl, q2⟩ := arC_out (rd_int .i64) q1
  obtain ⟨hpre, hk⟩ := chk_o q2
  exact ⟨_, _, hk, nb 2 Tryz.f84 (by kernel_rfl), _, run_w_heldEntryS a k hpre⟩

/-! pieces of strings, numbers read -/
theorem beqB_iff (a b : ByteArray) : (a == b) = true ↔ a = b := by
  cases a with | mk a => cases b with | mk b =>
  show (a == b) = true ↔ _
  simp
theorem beqB_no (a b : ByteArray) : (a == b) = false ↔ ¬ a = b := by
  rw [← beqB_iff]; simp
def byteFind (s : ByteArray) (c : Int) : Option Nat := (List.range s.size).find? fun i => s[i]! == c.toNat.toUInt8
def byteAtI (s : ByteArray) (c : Int) : Int := match byteFind s c with | some i => (i : Int) | none => -1
theorem byteFind_lt {s : ByteArray} {c : Int} {i : Nat} (h : byteFind s c = some i) : i < s.size := by
  have := List.mem_of_find?_eq_some h
  simpa using this
theorem byteAtI_le (s : ByteArray) (c : Int) : -1 ≤ byteAtI s c ∧ byteAtI s c < s.size := by
  unfold byteAtI
  cases h : byteFind s c with
  | none => dsimp only; omega
  | some i => have := byteFind_lt h; dsimp only; omega
def ixbFun (f : Nat) : Fun := ⟨f, [], fun ts K => as2 ts fun t0 t1 => arC pS t0 fun s => arC (pI .u8) t1 fun c => K (tI .i64 (byteAtI s c)) []⟩
theorem run_ixb {P : Program} (w : World) (s : ByteArray) (c : Int) : (Extern.BytealgIndexByte.indexByte #[.string s, .int .u8 c]).run P w = .ok (.int .i64 (byteAtI s c)) w := by
  have hdef : Extern.BytealgIndexByte.indexByte #[.string s, .int .u8 c] =
    (do
      let b ← Extern.Bytes.bytesOf (.string s)
      let c ← Extern.Bytes.asByte (.int .u8 c)
      match (List.range b.size).find? fun i => b[i]! == c with
      | some i => pure (goInt i)
      | none => pure (goInt (-1))) := rfl
  rw [hdef]
  have e1 : Extern.Bytes.bytesOf (.string s) = pure s := rfl
  have e2 : Extern.Bytes.asByte (.int .u8 c) = pure c.toNat.toUInt8 := rfl
  rw [e1, e2]
  simp only [Sem.run_bind, Sem.run_pure, Result.andThen_ok]
  unfold byteAtI byteFind
  cases (List.range s.size).find? fun i => s[i]! == c.toNat.toUInt8 with
  | none => rfl
  | some i => rfl
theorem ixb_ok {P : Program} {f : Nat} {fn : Func} (hf : P.funcs[f]? = some fn) (hname : (fn.name == "runtime.NumGoroutine") = false)
    (hb : fn.body.isNone = true) (hn : Extern.findNext fn = none) (he : Extern.find fn = some Extern.BytealgIndexByte.indexByte) : FunOk P (ixbFun f) := by
  intro ts K h
  obtain ⟨t0, t1, e0, h⟩ := as2_out h
  subst e0
  obtain ⟨s, e1, h⟩ := arC_out rd_s h
  subst e1
  obtain ⟨c, e2, h⟩ := arC_out (rd_int .u8) h
  subst e2
  intro w vs F G hrep _ _ _ _
  obtain ⟨v, u, rfl⟩ : ∃ v u, vs = [v, u] := by
    cases vs with
    | nil => exact hrep.elim
    | cons v r => cases r with
      | nil => obtain ⟨_, _, _, _, _, h, _⟩ := hrep; exact h.elim
      | cons u r => cases r with
        | nil => exact ⟨_, _, rfl⟩
        | cons _ _ => obtain ⟨_, _, _, _, _, ⟨_, _, _, _, _, h, _⟩, _⟩ := hrep; exact h.elim
  obtain ⟨F1, F2, G1, G2, hv, ⟨F3, F4, G3, G4, hu, ⟨hF4, hG4⟩, hF2, hG2⟩, hF, hG⟩ := hrep
  have hv' : v = .string s ∧ F1 = [] ∧ G1 = [] := hv
  obtain ⟨rfl, rfl, rfl⟩ := hv'
  have hu' : u = .int .u8 c ∧ F3 = [] ∧ G3 = [] := hu
  obtain ⟨rfl, rfl, rfl⟩ := hu'
  subst hF4; subst hG4; subst hF2; subst hG2; subst hF; subst hG
  refine .inr ⟨_, _, (run_callFunc_extern hf hname hb hn he #[.string s, .int .u8 c] w).trans (by rw [run_ixb]; rfl), tI .i64 (byteAtI s c), [], h, ?_⟩
  exact ⟨_, [], [], [], [], rfl, ⟨rfl, rfl, rfl⟩, ⟨rfl, rfl⟩, List.nodup_nil, (fun x hx => by cases hx), (fun x hx => by cases hx), Frame.refl _ _, trivial⟩

def c_bytealg_IndexByteString : Fun := ixbFun 253
theorem ok_bytealg_IndexByteString : FunOk Tryz.prog c_bytealg_IndexByteString := ixb_ok Tryz.func253 (by kernel_rfl) (by kernel_rfl) (by kernel_rfl) (by kernel_rfl)

def pf_stringslite_IndexByte : PF := ⟨[.t 4], .r [.mv 4 (.i 0)] (.r [.m 5 0, .m 6 1, .c 7 253 [5, 6], .m 4 7] .ret)⟩
def c_stringslite_IndexByte : Fun := ⟨223, [], fun ts K => as2 ts fun t0 t1 => arC pS t0 fun s => arC (pI .u8) t1 fun c => K (tN (byteAtI s c)) []⟩
theorem run_stringslite_IndexByte (s : ByteArray) (c : Int) : runK [c_bytealg_IndexByteString] (0) [] pf_stringslite_IndexByte [.v (.c (.str s)), tI .u8 c] fun r o => r = tN (byteAtI s c) ∧ o = [] := by
  conv => whnf
  repeat' (first | ((first | refine sel_i (fun h => ?_) (fun h => ?_) | refine chk_c ?_ ?_) <;> conv => whnf) | refine And.intro ?_ rfl | (refine And.intro ?_ ?_ <;> conv => whnf))
  all_goals rfl
theorem ok_stringslite_IndexByte : FunOk Tryz.prog c_stringslite_IndexByte := funOk (eK ok_bytealg_IndexByteString eN) mixd Tryz.func223 (pf := pf_stringslite_IndexByte) (by kernel_rfl) fun ts K h => by
  obtain ⟨t0, t1, rfl, q0⟩ := as2_out h
  obtain ⟨s, rfl, q1⟩ := arC_out rd_s q0
  obtain ⟨c, rfl, q2⟩ := arC_out (rd_int .u8) q1
  exact ⟨_, _, q2, nb 2 Tryz.f223 (by kernel_rfl), _, run_stringslite_IndexByte s c⟩

def blankB : ByteArray := ⟨#[32]⟩
def cutB (s : ByteArray) : ByteArray × ByteArray × Bool := if byteAtI s 32 < 0 then (s, ⟨#[]⟩, false) else (s.extract 0 (byteAtI s 32).toNat, s.extract (byteAtI s 32 + 1).toNat s.size, true)

def lb_stringslite_Index_0 : PC := .seq (.r [.m 57 8, .m 58 9, .bin 59 .lss 57 58] (.cond 59 .skip (.exit 1))) (.blk 2 (.seq (.r [.m 60 0, .m 61 8, .s (.sidx 62 60 61), .m 63 6, .bin 64 .neq 62 63] (.cond 64 (.r [.m 65 0, .m 66 8, .bin 67 .add 66 (.i 1), .m 68 9, .s (.ssl 69 65 (some 67) (some 68)), .m 70 6, .c 71 223 [69, 70], .m 11 71] (.seq (.r [.m 72 11, .bin 73 .lss 72 (.i 0)] (.cond 73 (.r [.mv 4 (.i (-1))] .ret) .skip)) (.reg [.m 74 8, .m 75 11, .bin 76 .add 75 (.i 1), .bin 77 .add 74 76, .m 8 77]))) .skip)) (.seq (.r [.m 78 0, .m 79 8, .bin 80 .add 79 (.i 1), .s (.sidx 81 78 80), .m 82 7, .bin 83 .eql 81 82, .m 84 83, .y 84 85 (.mv 85 0), .y 84 86 (.mv 86 8), .y 84 87 (.mv 87 8), .y 84 88 (.mv 88 5), .y 84 89 (.bin 89 .add 87 88), .y 84 90 (.ssl 90 85 (some 86) (some 89)), .y 84 91 (.mv 91 1), .y 84 92 (.eqs 92 false [.s] false 90 91), .pick 93 84 92 .F] (.cond 93 (.r [.m 94 8, .m 4 94] .ret) .skip)) (.r [.m 95 8, .bin 96 .add 95 (.i 1), .m 8 96] (.r [.m 97 10, .bin 98 .add 97 (.i 1), .m 10 98] (.r [.m 99 5, .s (.no), .bin 101 .leq 99 100, .m 102 101, .y 102 103 (.mv 103 10), .y 102 104 (.mv 104 8), .y 102 105 (.call (some 105) 225 [104]), .y 102 106 (.bin 106 .gtr 103 105), .pick 107 102 106 .F] (.cond 107 (.r [.m 108 0, .m 109 8, .s (.ssl 110 108 (some 109) none), .m 111 1, .c 112 224 [110, 111], .m 12 112] (.seq (.r [.m 113 12, .bin 114 .geq 113 (.i 0)] (.cond 114 (.r [.m 115 12, .m 116 8, .bin 117 .add 115 116, .m 4 117] .ret) .skip)) (.r [.mv 4 (.i (-1))] .ret))) (.r [.m 118 5, .s (.no), .bin 120 .gtr 118 119, .m 121 120, .y 121 122 (.mv 122 10), .y 121 123 (.mv 123 8), .y 121 124 (.bin 124 .shr 123 (.k (.v (.c (.int .u64 4))))), .y 121 125 (.bin 125 .add (.i 4) 124), .y 121 126 (.bin 126 .geq 122 125), .pick 127 121 126 .F, .m 128 127, .y 128 129 (.mv 129 8), .y 128 130 (.mv 130 9), .y 128 131 (.bin 131 .lss 129 130), .pick 132 128 131 .F] (.cond 132 (.r [.m 133 0, .m 134 8, .s (.ssl 135 133 (some 134) none), .m 136 1, .c 137 226 [135, 136], .m 13 137] (.seq (.r [.m 138 13, .bin 139 .lss 138 (.i 0)] (.cond 139 (.r [.mv 4 (.i (-1))] .ret) .skip)) (.r [.m 140 8, .m 141 13, .bin 142 .add 140 141, .m 4 142] .ret))) .skip)))))))))
def pf_stringslite_Index : PF := ⟨[.t 4], .r [.mv 4 (.i 0)] (.r [.m 14 1, .len 15 true 14, .m 5 15] (.seq (.blk 0 (.r [.m 17 5, .bin 18 .eql 17 (.i 0), .m 19 18, .n 19 20 (.mv 20 1), .n 19 21 (.mv 21 0), .n 19 22 (.eqs 22 false [.s] false 20 21), .pick 23 19 .T 22, .m 16 23] (.cond 16 (.r [.mv 4 (.i 0)] .ret) (.r [.m 25 5, .bin 26 .eql 25 (.i 1), .m 24 26] (.cond 24 (.r [.m 27 0, .m 28 1, .s (.sidx 29 28 (.i 0)), .c 30 223 [27, 29], .m 4 30] .ret) (.r [.m 32 5, .m 33 0, .len 34 true 33, .bin 35 .geq 32 34, .m 31 35] (.cond 31 (.r [.mv 4 (.i (-1))] .ret) (.r [.m 37 5, .s (.no), .bin 39 .leq 37 38, .m 40 39, .y 40 41 (.mv 41 0), .y 40 42 (.len 42 true 41), .y 40 43 (.bin 43 .leq 42 (.i 64)), .pick 44 40 43 .F, .m 36 44] (.cond 36 (.r [.m 45 0, .m 46 1, .c 47 224 [45, 46], .m 4 47] .ret) .skip))))))))) (.r [.m 48 1, .s (.sidx 49 48 (.i 0)), .m 6 49] (.r [.m 50 1, .s (.sidx 51 50 (.i 1)), .m 7 51] (.r [.mv 8 (.i 0)] (.r [.m 52 0, .len 53 true 52, .m 54 5, .bin 55 .sub 53 54, .bin 56 .add 55 (.i 1), .m 9 56] (.r [.mv 10 (.i 0)] (.seq (.blk 1 (.loop [0, 1, 5, 6, 7, 8, 9, 10] lb_stringslite_Index_0)) (.r [.mv 4 (.i (-1))] .ret)))))))))⟩
def c_stringslite_Index : Fun := ⟨181, [], fun ts K => as2 ts fun t0 t1 => arC pS t0 fun s => arC pS t1 fun x => chk (x = blankB) (K (tN (byteAtI s 32)) [])⟩
theorem run_stringslite_Index (s : ByteArray) (x : ByteArray) (hpre : x = blankB) : runK [c_stringslite_IndexByte] (0) [] pf_stringslite_Index [.v (.c (.str s)), .v (.c (.str x))] fun r o => r = tN (byteAtI s 32) ∧ o = [] := by
  subst hpre
  conv => whnf
  repeat' (first | ((first | refine sel_i (fun h => ?_) (fun h => ?_) | refine chk_c ?_ ?_) <;> conv => whnf) | refine And.intro ?_ rfl | (refine And.intro ?_ ?_ <;> conv => whnf))
  all_goals first
    | (refine ⟨?_⟩; decide)
    | (exfalso; revert h; decide)
    | (have e : blankB = s := (beqB_iff _ _).1 h
       subst e
       rfl)
    | rfl
    | (exfalso; rename_i q1 q2 q3; revert q3; decide)
    | (exfalso; rename_i q1; revert q1; decide)
    | trace_state
theorem ok_stringslite_Index : FunOk Tryz.prog c_stringslite_Index := funOk (eK ok_stringslite_IndexByte eN) mixd Tryz.func181 (pf := pf_stringslite_Index) (by kernel_rfl) fun ts K h => by
  obtain ⟨t0, t1, rfl, q0⟩ := as2_out h
  obtain ⟨s, rfl, q1⟩ := arC_out rd_s q0
  obtain ⟨x, rfl, q2⟩ := arC_out rd_s q1
  obtain ⟨hpre, hk⟩ := chk_o q2
  exact ⟨_, _, hk, nb 2 Tryz.f181 (by kernel_rfl), _, run_stringslite_Index s x hpre⟩

def pf_stringslite_Cut : PF := ⟨[.t 4, .t 5, .t 6], .r [.mv 4 (.k (.v (.c (.str ⟨#[]⟩)))), .mv 5 (.k (.v (.c (.str ⟨#[]⟩)))), .mv 6 .F] (.seq (.r [.m 8 0, .m 9 1, .c 10 181 [8, 9], .m 7 10] (.r [.m 11 7, .bin 12 .geq 11 (.i 0)] (.cond 12 (.seq (.rgd [] [.m 13 0, .m 14 7, .s (.ssl 15 13 none (some 14)), .m 16 0, .m 17 7, .m 18 1, .len 19 true 18, .bin 20 .add 17 19, .s (.ssl 21 16 (some 20) none), .m 4 15, .m 5 21, .mv 6 .T] (.ts [0, 1, 2, 3, 4, 5, 6, 7, 8, 9, 10, 11] .d)) .ret) .skip))) (.r [.m 22 0, .m 4 22, .mv 5 (.k (.v (.c (.str ⟨#[]⟩)))), .mv 6 .F] .ret))⟩
def c_stringslite_Cut : Fun := ⟨127, [], fun ts K => as2 ts fun t0 t1 => arC pS t0 fun s => arC pS t1 fun x => chk (x = blankB ∧ s.size ≤ 1000000000) (K (.tup [.c (.str (cutB s).1), .c (.str (cutB s).2.1), .c (.bool (cutB s).2.2)]) [])⟩
theorem run_stringslite_Cut (s : ByteArray) (x : ByteArray) (hpre : x = blankB ∧ s.size ≤ 1000000000) : runK [c_stringslite_Index] (0) [] pf_stringslite_Cut [.v (.c (.str s)), .v (.c (.str x))] fun r o => r = .tup [.c (.str (cutB s).1), .c (.str (cutB s).2.1), .c (.bool (cutB s).2.2)] ∧ o = [] := by
  obtain ⟨hpre, hs⟩ := hpre
  have hb := byteAtI_le s 32
  subst hpre
  have hb1 : ((blankB.size : Nat) : Int) = 1 := rfl
  conv => whnf
  repeat' (first | ((first | refine sel_i (fun h => ?_) (fun h => ?_) | refine chk_c ?_ ?_) <;> conv => whnf) | refine And.intro ?_ rfl | (refine And.intro ?_ ?_ <;> conv => whnf))
  all_goals (try simp only [hb1] at h ⊢)
  all_goals first
    | (refine ⟨?_⟩; rfl)
    | (refine ⟨?_⟩; simp at h; omega)
    | (refine ⟨?_⟩; simp at h; rw [wrap_id (by omega) (by omega)]; omega)
    | (have hn : ¬ byteAtI s 32 < 0 := by simp at h; omega
       rw [wrap_id (by omega) (by omega)]
       unfold cutB
       rw [if_neg hn])
    | (have hn : byteAtI s 32 < 0 := by simp at h; omega
       unfold cutB
       rw [if_pos hn])
    | trace_state
theorem ok_stringslite_Cut : FunOk Tryz.prog c_stringslite_Cut := funOk (eK ok_stringslite_Index eN) mixd Tryz.func127 (pf := pf_stringslite_Cut) (by kernel_rfl) fun ts K h => by
  obtain ⟨t0, t1, rfl, q0⟩ := as2_out h
  obtain ⟨s, rfl, q1⟩ := arC_out rd_s q0
  obtain ⟨x, rfl, q2⟩ := arC_out rd_s q1
  obtain ⟨hpre, hk⟩ := chk_o q2
  exact ⟨_, _, hk, nb 2 Tryz.f127 (by kernel_rfl), _, run_stringslite_Cut s x hpre⟩

def pf_strings_Cut : PF := ⟨[.t 4, .t 5, .t 6], .r [.mv 4 (.k (.v (.c (.str ⟨#[]⟩)))), .mv 5 (.k (.v (.c (.str ⟨#[]⟩)))), .mv 6 .F] (.r [.m 7 0, .m 8 1, .c 9 127 [7, 8], .ext 10 9 0, .ext 11 9 1, .ext 12 9 2, .m 4 10, .m 5 11, .m 6 12] .ret)⟩
def c_strings_Cut : Fun := ⟨74, [], fun ts K => as2 ts fun t0 t1 => arC pS t0 fun s => arC pS t1 fun x => chk (x = blankB ∧ s.size ≤ 1000000000) (K (.tup [.c (.str (cutB s).1), .c (.str (cutB s).2.1), .c (.bool (cutB s).2.2)]) [])⟩
theorem run_strings_Cut (s : ByteArray) (x : ByteArray) (hpre : x = blankB ∧ s.size ≤ 1000000000) : runK [c_stringslite_Cut] (0) [] pf_strings_Cut [.v (.c (.str s)), .v (.c (.str x))] fun r o => r = .tup [.c (.str (cutB s).1), .c (.str (cutB s).2.1), .c (.bool (cutB s).2.2)] ∧ o = [] := by
  conv => whnf
  repeat' (first | ((first | refine sel_i (fun h => ?_) (fun h => ?_) | refine chk_c ?_ ?_) <;> conv => whnf) | refine And.intro ?_ rfl | (refine And.intro ?_ ?_ <;> conv => whnf))
  all_goals first | (refine ⟨?_⟩; exact hpre) | rfl
theorem ok_strings_Cut : FunOk Tryz.prog c_strings_Cut := funOk (eK ok_stringslite_Cut eN) mixd Tryz.func74 (pf := pf_strings_Cut) (by kernel_rfl) fun ts K h => by
  obtain ⟨t0, t1, rfl, q0⟩ := as2_out h
  obtain ⟨s, rfl, q1⟩ := arC_out rd_s q0
  obtain ⟨x, rfl, q2⟩ := arC_out rd_s q1
  obtain ⟨hpre, hk⟩ := chk_o q2
  exact ⟨_, _, hk, nb 2 Tryz.f74 (by kernel_rfl), _, run_strings_Cut s x hpre⟩

def atoiR (s : ByteArray) : Option Int := match Lib.atoiAll s.data.toList with | .ok v => some v | _ => none
theorem atoiR_bounds {s : ByteArray} {v : Int} (h : atoiR s = some v) : -9223372036854775808 ≤ v ∧ v ≤ 9223372036854775807 := by
  unfold atoiR at h
  split at h
  · cases h
    rename_i e
    have := Lib.atoiAll_bounds e
    omega
  · cases h
def atoiFun (f : Nat) : Fun := ⟨f, [], fun ts K => as1 ts fun t0 => arC pS t0 fun s => chk (s.size ≤ 1000000000) ((∀ v, atoiR s = some v → K (.tup [.c (.int .i64 v), .c .nili]) []) ∧ (∀ v, atoiR s = none → K (.tup [.c (.int .i64 v), .c .ife]) []))⟩
theorem frame_below {w w' : World} (h : Go.RowKit.Below w.heap.size w w') : Frame w w' [] := ⟨h.os, h.tape, h.output, h.size, fun k hk _ => h.block k hk⟩
theorem atoi_ok {P : Program} {f : Nat} {t5 : TypeId} {be bs : Nat} (hc : Callable P f) (hg1 : P.globalNamed "strconv.ErrSyntax" = some bs) (hg2 : P.globalNamed "strconv.ErrRange" = some be)
    (h1 : ∀ (s : ByteArray), s.size ≤ 9223372036854775806 → ∀ (v : Int), Lib.atoiAll s.data.toList = .ok v → ∀ w, Calls P f #[.string s] w fun e w' => e = .returned (.tuple #[.int .i64 v, .nilIface]) ∧ (w' = w ∨ ∃ t, w' = Lib.bytesWorld w t5 t))
    (h2 : ∀ (s : ByteArray), s.size ≤ 281474976710656 → (∀ v, Lib.atoiAll s.data.toList ≠ .ok v) → Lib.atoiAll s.data.toList ≠ .range → ∀ (ev : Value) (w : World), w.cell? ⟨bs, 0, none⟩ = some ev → (ev = .nilIface ∨ ∃ te pe, ev = .iface te pe) →
      Calls P f #[.string s] w fun e w' => ∃ v te p, e = .returned (.tuple #[.int .i64 v, .iface te p]) ∧ Go.RowKit.Below w.heap.size w w')
    (h3 : ∀ (s : ByteArray), s.size ≤ 281474976710656 → Lib.atoiAll s.data.toList = .range → ∀ (ev : Value) (w : World), w.cell? ⟨be, 0, none⟩ = some ev → (ev = .nilIface ∨ ∃ te pe, ev = .iface te pe) →
      Calls P f #[.string s] w fun e w' => ∃ v te p, e = .returned (.tuple #[.int .i64 v, .iface te p]) ∧ Go.RowKit.Below w.heap.size w w') : FunOk P (atoiFun f) := by
  intro ts K hg
  obtain ⟨t0, e0, hg⟩ := as1_out hg
  subst e0
  obtain ⟨s, e1, hg⟩ := arC_out rd_s hg
  subst e1
  obtain ⟨hs, hgs, hge⟩ := chk_o hg
  intro w vs F G hrep _ _ _ hL
  obtain ⟨v, vs', hvs⟩ : ∃ v vs', vs = v :: vs' := by cases vs with
    | nil => exact hrep.elim
    | cons v vs' => exact ⟨v, vs', rfl⟩
  subst hvs
  obtain ⟨F1, F2, G1, G2, hv, hr, rfl, rfl⟩ := hrep
  have hv' : v = .string s ∧ F1 = [] ∧ G1 = [] := hv
  obtain ⟨rfl, rfl, rfl⟩ := hv'
  cases vs' with
  | cons _ _ => exact hr.elim
  | nil =>
  obtain ⟨rfl, rfl⟩ := hr
  have cell : ∀ {nm : String} {b : Nat}, nm ∈ errNames → P.globalNamed nm = some b → ∃ tp p, w.cell? ⟨b, 0, none⟩ = some (.iface tp p) := fun hn hb => by
    obtain ⟨_, _, tp, p, h⟩ := hL.2 _ hn _ hb
    exact ⟨tp, p, by simpa using World.var?_cell hb h 0⟩
  have bad : ∀ {e : Ending} {w' : World}, atoiR s = none → (∃ v te p, e = .returned (.tuple #[.int .i64 v, .iface te p]) ∧ Go.RowKit.Below w.heap.size w w') → _ := fun {e w'} hn he =>
    (by
      obtain ⟨v, te, p, rfl, hb⟩ := he
      exact ⟨.tup [.c (.int .i64 v), .c .ife], [], hge v hn, _, [], [], [], [], rfl, ⟨[.int .i64 v, .iface te p], rfl, [], [], [], [], ⟨rfl, rfl, rfl⟩, ⟨[], [], [], [], ⟨⟨te, p, rfl⟩, rfl, rfl⟩, ⟨rfl, rfl⟩, rfl, rfl⟩, rfl, rfl⟩, ⟨rfl, rfl⟩, List.nodup_nil, (fun x hx => by cases hx), (fun x hx => by cases hx), frame_below hb, trivial⟩ :
      ∃ res os, K res os ∧ ∃ v F1 G1 Fo Go, e = .returned v ∧ RepT w' res v F1 G1 ∧ RepTs w' os (lends (atoiFun f).lend [.string s]) Fo Go ∧ (Fo ++ F1).Nodup ∧ (∀ x ∈ Fo ++ F1, x < w'.heap.size ∧ (x ∈ ([] : List Nat) ++ [] ∨ w.heap.size ≤ x)) ∧ (∀ x ∈ Go ++ G1, x ∈ ([] : List Nat) ++ []) ∧ Frame w w' ([] ++ []) ∧ HdK w w' (lends (atoiFun f).lend [.v (.c (.str s))]) os (lends (atoiFun f).lend [.string s]))
  refine .inl ⟨hc, ?_⟩
  rcases ha : Lib.atoiAll s.data.toList with v | _ | _
  · refine (h1 s (by omega) v ha w).mono fun e w' he => ?_
    obtain ⟨rfl, hw⟩ := he
    have hb : Go.RowKit.Below w.heap.size w w' := by
      rcases hw with rfl | ⟨t, rfl⟩
      · exact ⟨rfl, rfl, rfl, Nat.le_refl _, fun _ _ => rfl⟩
      · exact Lib.bytesWorld_below w t5 t
    exact ⟨.tup [.c (.int .i64 v), .c .nili], [], hgs v (by unfold atoiR; rw [ha]), _, [], [], [], [], rfl, ⟨[.int .i64 v, .nilIface], rfl, [], [], [], [], ⟨rfl, rfl, rfl⟩, ⟨[], [], [], [], ⟨rfl, rfl, rfl⟩, ⟨rfl, rfl⟩, rfl, rfl⟩, rfl, rfl⟩, ⟨rfl, rfl⟩, List.nodup_nil, (fun x hx => by cases hx), (fun x hx => by cases hx), frame_below hb, trivial⟩
  · obtain ⟨tp, p, hcell⟩ := cell (by simp [errNames]) hg1
    exact (h2 s (by omega) (fun v q => by rw [ha] at q; cases q) (fun q => by rw [ha] at q; cases q) _ w hcell (.inr ⟨tp, p, rfl⟩)).mono fun e w' he => bad (by unfold atoiR; rw [ha]) he
  · obtain ⟨tp, p, hcell⟩ := cell (by simp [errNames]) hg2
    exact (h3 s (by omega) ha _ w hcell (.inr ⟨tp, p, rfl⟩)).mono fun e w' he => bad (by unfold atoiR; rw [ha]) he

def pf_strconv_Atoi : PF := ⟨[.t 2, .t 3], .r [.mv 2 (.i 0), .mv 3 (.k (.v (.c .nili)))] (.r [.m 7 0, .c 8 182 [7], .m 6 8, .ext 9 6 0, .ext 10 6 1, .m 4 9, .m 5 10] (.seq (.r [.m 11 5, .s (.inil 12 11)] (.cond 12 (.r [.m 13 4, .m 14 0, .m 15 5, .c 16 183 [(.k (.v (.c (.str ⟨#[65, 116, 111, 105]⟩)))), 14, (.i 0), (.i 0), 15], .m 2 13, .m 3 16] .ret) .skip)) (.r [.m 17 4, .m 2 17, .mv 3 (.k (.v (.c .nili)))] .ret)))⟩
def c_strconv_Atoi : Fun := atoiFun 128
theorem ok_strconv_Atoi : FunOk Tryz.prog c_strconv_Atoi :=
  atoi_ok (callable_of Tryz.func128 (pf := pf_strconv_Atoi) (by kernel_rfl)) (show Tryz.prog.globalNamed "strconv.ErrSyntax" = some _ by kernel_rfl) (show Tryz.prog.globalNamed "strconv.ErrRange" = some _ by kernel_rfl)
    (fun s hs v h w => Tryz.strconv_Atoi_ok s hs v h w)
    (fun s hs h h' ev w hv he => (Tryz.strconv_Atoi_syntax s hs h h' ev w hv he).mono fun e w' hh => by obtain ⟨N, e1, _, _, hb⟩ := hh; exact ⟨_, _, _, e1, hb⟩)
    (fun s hs h ev w hv he => (Tryz.strconv_Atoi_range s hs h ev w hv he).mono fun e w' hh => by obtain ⟨N, e1, _, _, hb⟩ := hh; exact ⟨_, _, _, e1, hb⟩)

def deskN (s : ByteArray) : Int × Bool := match atoiR s with | some v => if s.size ≤ 2 ∧ 0 ≤ v ∧ itoaB v = s then (v, true) else (0, false) | none => (0, false)
theorem deskN_no {s : ByteArray} (h : atoiR s = none) : deskN s = (0, false) := by unfold deskN; rw [h]
theorem deskN_bad {s : ByteArray} {v : Int} (h : atoiR s = some v) (h1 : ¬ (s.size ≤ 2 ∧ 0 ≤ v ∧ itoaB v = s)) : deskN s = (0, false) := by unfold deskN; rw [h]; exact if_neg h1
theorem deskN_ok {s : ByteArray} {v : Int} (h : atoiR s = some v) (h1 : s.size ≤ 2 ∧ 0 ≤ v ∧ itoaB v = s) : deskN s = (v, true) := by unfold deskN; rw [h]; exact if_pos h1

def pf_i_deskNumber : PF := ⟨[.t 2, .t 3], .r [.mv 2 (.i 0), .mv 3 .F] (.r [.m 7 0, .c 8 128 [7], .m 6 8, .ext 9 6 0, .ext 10 6 1, .m 4 9, .m 5 10] (.seq (.r [.m 11 5, .s (.inil 12 11), .m 13 12, .n 13 14 (.mv 14 0), .n 13 15 (.len 15 true 14), .n 13 16 (.bin 16 .gtr 15 (.i 2)), .pick 17 13 .T 16, .m 18 17, .n 18 19 (.mv 19 4), .n 18 20 (.bin 20 .lss 19 (.i 0)), .pick 21 18 .T 20, .m 22 21, .n 22 23 (.mv 23 4), .n 22 24 (.call (some 24) 70 [23]), .n 22 25 (.mv 25 0), .n 22 26 (.eqs 26 false [.s] true 24 25), .pick 27 22 .T 26] (.cond 27 (.r [.mv 2 (.i 0), .mv 3 .F] .ret) .skip)) (.r [.m 28 4, .m 2 28, .mv 3 .T] .ret)))⟩
def c_i_deskNumber : Fun := ⟨75, [], fun ts K => as1 ts fun t0 => arC pS t0 fun s => chk (s.size ≤ 1000000000) (K (.tup [.c (.int .i64 (deskN s).1), .c (.bool (deskN s).2)]) [])⟩
theorem run_i_deskNumber (s : ByteArray) (hpre : s.size ≤ 1000000000) : runK [c_strconv_Itoa, c_strconv_Atoi] (0) [] pf_i_deskNumber [.v (.c (.str s))] fun r o => r = .tup [.c (.int .i64 (deskN s).1), .c (.bool (deskN s).2)] ∧ o = [] := by
  conv => whnf
  repeat' (first | (refine sel_i (fun h => ?_) (fun h => ?_) <;> conv => whnf) | (refine chk_c ?_ ?_ <;> conv => whnf) | (refine And.intro ?_ rfl) | (refine And.intro ?_ ?_ <;> conv => whnf) | (intro x y z d hd; (try have g1 := And.left hd); (try have g2 := And.right hd); (try have g3 := And.left (And.right hd)); (try have g4 := And.right (And.right hd)); conv => whnf) | (intro x y d hd; (try have g1 := And.left hd); (try have g2 := And.right hd); (try have g3 := And.left (And.right hd)); (try have g4 := And.right (And.right hd)); conv => whnf) | (intro x d hd; (try have g1 := And.left hd); (try have g2 := And.right hd); (try have g3 := And.left (And.right hd)); (try have g4 := And.right (And.right hd)); conv => whnf) | (intro d hd; (try have g1 := And.left hd); (try have g2 := And.right hd); (try have g3 := And.left (And.right hd)); (try have g4 := And.right (And.right hd)); conv => whnf))
  all_goals (try simp only [decide_eq_true_eq, decide_eq_false_iff_not, Bool.not_eq_true', Bool.not_eq_false', beqB_iff, beqB_no, gt_iff_lt, ne_eq] at *)
  all_goals first
    | (refine ⟨?_⟩; exact hpre)
    | (refine ⟨?_⟩; exact atoiR_bounds hd)
    | (rw [deskN_no hd])
    | (rw [deskN_bad hd (by omega)])
    | (rw [deskN_bad hd (fun q => absurd q.2.2 (by assumption))])
    | (rw [deskN_ok hd ⟨by omega, by omega, by assumption⟩])
    | trace_state
theorem ok_i_deskNumber : FunOk Tryz.prog c_i_deskNumber := funOk (eK ok_strconv_Itoa (eK ok_strconv_Atoi eN)) mixd Tryz.func75 (pf := pf_i_deskNumber) (by kernel_rfl) fun ts K h => by
  obtain ⟨t0, rfl, q0⟩ := as1_out h
  obtain ⟨s, rfl, q1⟩ := arC_out rd_s q0
  obtain ⟨hpre, hk⟩ := chk_o q1
  exact ⟨_, _, hk, nb 1 Tryz.f75 (by kernel_rfl), _, run_i_deskNumber s hpre⟩

/-! keys and words as texts -/
def bitP (p : Int) (i : Nat) : Int := IntKind.i64.wrap ((BitVec.ofInt IntKind.i64.bits (p.fdiv (2 ^ (min i 64))) &&& BitVec.ofInt IntKind.i64.bits 1).toNat : Int)
theorem bitP_01 {p : Int} {i : Nat} (h0 : 0 ≤ p) (h1 : p ≤ 63) (hi : i < 6) : bitP p i = 0 ∨ bitP p i = 1 := by
  obtain ⟨n, rfl⟩ : ∃ n : Nat, p = n := ⟨p.toNat, by omega⟩
  have key : ∀ n : Nat, n < 64 → ∀ i : Nat, i < 6 → (bitP (n : Int) i = 0 ∨ bitP (n : Int) i = 1) := by decide
  exact key n (by omega) i hi
def lettersB : ByteArray := ⟨#[108, 115, 114, 116, 112, 107]⟩
def letB (i : Nat) : ByteArray := lettersB.extract i (i + 1)
def letsTo (p : Int) (b : ByteArray) : Nat → ByteArray
  | 0 => b
  | i + 1 => if bitP p i = 1 then letsTo p b i ++ letB i else letsTo p b i
theorem letsTo_yes {p : Int} {b : ByteArray} {i : Nat} (h : bitP p i = 1) : letsTo p b (i + 1) = letsTo p b i ++ letB i := if_pos h
theorem letsTo_no {p : Int} {b : ByteArray} {i : Nat} (h : ¬ bitP p i = 1) : letsTo p b (i + 1) = letsTo p b i := if_neg h
def headB (k : Key) : ByteArray := (((⟨#[91]⟩ : ByteArray) ++ itoaB k.base ++ ⟨#[44]⟩) ++ itoaB k.top) ++ ⟨#[41]⟩
def keyB (k : Key) : ByteArray := if keyOk k = true then (if k.sealed = 0 then letsTo k.perms (headB k) 6 else letsTo k.perms (headB k) 6 ++ (⟨#[35]⟩ ++ itoaB k.sealed)) else ⟨#[]⟩
theorem keyB_no {k : Key} (h : keyOk k = false) : keyB k = ⟨#[]⟩ := by unfold keyB; rw [h]; rfl
theorem keyB_0 {k : Key} (h : keyOk k = true) (h0 : k.sealed = 0) : keyB k = letsTo k.perms (headB k) 6 := by unfold keyB; rw [if_pos h, if_pos h0]
theorem keyB_1 {k : Key} (h : keyOk k = true) (h0 : ¬ k.sealed = 0) : keyB k = letsTo k.perms (headB k) 6 ++ (⟨#[35]⟩ ++ itoaB k.sealed) := by unfold keyB; rw [if_pos h, if_neg h0]
theorem inR_iff {n a b : Int} : inR n a b = true ↔ a ≤ n ∧ n ≤ b := by unfold inR; simp
theorem keyOk_rng {k : Key} (h : keyOk k = true) : 0 ≤ k.perms ∧ k.perms ≤ 63 ∧ 0 ≤ k.sealed ∧ k.sealed ≤ 7 := by
  unfold keyOk at h
  simp only [Bool.and_eq_true, inR_iff] at h
  exact ⟨h.1.2.1, h.1.2.2, h.2.1, h.2.2⟩
def wordB (w : Word) : ByteArray := if wordOk w = true then (if w.is = true then itoaB w.n ++ (⟨#[32]⟩ ++ keyB w.key) else itoaB w.n) else ⟨#[]⟩
theorem wordB_no {w : Word} (h : wordOk w = false) : wordB w = ⟨#[]⟩ := by unfold wordB; rw [h]; rfl
theorem wordB_is {w : Word} (h : wordOk w = true) (h1 : w.is = true) : wordB w = itoaB w.n ++ (⟨#[32]⟩ ++ keyB w.key) := by unfold wordB; rw [if_pos h, if_pos h1]
theorem wordB_n {w : Word} (h : wordOk w = true) (h1 : w.is = false) : wordB w = itoaB w.n := by unfold wordB; rw [if_pos h, if_neg (by rw [h1]; exact Bool.false_ne_true)]
theorem keyOk_rng2 {k : Key} (h : keyOk k = true) : 0 ≤ k.base ∧ k.base ≤ 4096 ∧ 0 ≤ k.top ∧ k.top ≤ 4096 := by
  unfold keyOk exact_ boundsOk at h
  simp only [Bool.and_eq_true, decide_eq_true_eq] at h
  omega
theorem letB_size {i : Nat} (h : i < 6) : (letB i).size = 1 := by
  have key : ∀ i : Nat, i < 6 → (letB i).size = 1 := by decide
  exact key i h
theorem letB_at : ∀ (i : Nat), i < 6 → ([letB 0, letB 1, letB 2, letB 3, letB 4, letB 5] : List ByteArray).getD i (FT.zero .str) = letB i
  | 0, _ => rfl
  | 1, _ => rfl
  | 2, _ => rfl
  | 3, _ => rfl
  | 4, _ => rfl
  | 5, _ => rfl
  | i + 6, h => by omega
theorem letsTo_size (p : Int) (b : ByteArray) : ∀ (i : Nat), i ≤ 6 → (letsTo p b i).size ≤ b.size + i
  | 0, _ => Nat.le_refl _
  | i + 1, h => by
    have := letsTo_size p b i (by omega)
    have h1 := letB_size (i := i) (by omega)
    unfold letsTo
    split
    · rw [ByteArray.size_append]; omega
    · omega
theorem headB_size {k : Key} (h : keyOk k = true) : (headB k).size ≤ 45 := by
  obtain ⟨h1, h2, h3, h4⟩ := keyOk_rng2 h
  have a := itoaB_size (n := k.base) ⟨by omega, by omega⟩
  have b := itoaB_size (n := k.top) ⟨by omega, by omega⟩
  unfold headB
  simp only [ByteArray.size_append]
  have e1 : (⟨#[91]⟩ : ByteArray).size = 1 := rfl
  have e2 : (⟨#[44]⟩ : ByteArray).size = 1 := rfl
  have e3 : (⟨#[41]⟩ : ByteArray).size = 1 := rfl
  omega
theorem keyB_size (k : Key) : (keyB k).size ≤ 80 := by
  cases h : keyOk k with
  | false => rw [keyB_no h]; exact Nat.zero_le _
  | true =>
    have h1 := headB_size h
    have h2 := letsTo_size k.perms (headB k) 6 (Nat.le_refl _)
    obtain ⟨_, _, h3, h4⟩ := keyOk_rng h
    have a := itoaB_size (n := k.sealed) ⟨by omega, by omega⟩
    have e1 : (⟨#[35]⟩ : ByteArray).size = 1 := rfl
    by_cases h0 : k.sealed = 0
    · rw [keyB_0 h h0]; omega
    · rw [keyB_1 h h0]
      simp only [ByteArray.size_append]
      omega
theorem wordOk_nn {w : Word} (h : wordOk w = true) : 0 ≤ w.n ∧ w.n ≤ 65535 := by
  unfold wordOk at h
  simp only [Bool.and_eq_true, inR_iff] at h
  exact h.1

def lb_i_KeyText_0 : PC := .r [.bin 19 .lss 18 (.i 6)] (.seq (.cond 19 .skip (.exit 0)) (.seq (.blk 1 (.r [.m 20 18, .m 4 20] (.r [.f 21 1 2, .l 22 1 21, .m 23 4, .bin 24 .shr 22 23, .bin 25 .and 24 (.i 1), .bin 26 .eql 25 (.i 1)] (.cond 26 (.reg [.m 27 3, .m 28 4, .m 29 4, .bin 30 .add 29 (.i 1), .s (.ssl 31 (.k (.v (.c (.str ⟨#[108, 115, 114, 116, 112, 107]⟩)))) (some 28) (some 30)), .cat 32 27 31, .m 3 32]) .skip)))) (.reg [.bin 33 .add 18 (.i 1), .m 18 33])))
def pf_i_KeyText : PF := ⟨[.t 2], .r [.box 1 0, .mv 2 (.k (.v (.c (.str ⟨#[]⟩))))] (.seq (.r [.L 5 4 1, .c 6 115 [5], .bnot 7 6] (.cond 7 (.r [.mv 2 (.k (.v (.c (.str ⟨#[]⟩))))] .ret) .skip)) (.seq (.rgd [] [.f 8 1 0, .l 9 1 8, .c 10 70 [9], .cat 11 (.k (.v (.c (.str ⟨#[91]⟩)))) 10, .cat 12 11 (.k (.v (.c (.str ⟨#[44]⟩)))), .f 13 1 1, .l 14 1 13, .c 15 70 [14], .cat 16 12 15, .cat 17 16 (.k (.v (.c (.str ⟨#[41]⟩)))), .m 3 17] (.ts [0, 1, 5, 6] (.one 2 false (.ts [3, 4] (.one 7 true (.ts [8, 9, 10] .d)))))) (.seq (.r [.mv 18 (.i 0)] (.blk 0 (.loop [1, 3, 18] lb_i_KeyText_0))) (.seq (.r [.f 34 1 3, .l 35 1 34, .bin 36 .neq 35 (.i 0)] (.cond 36 (.reg [.m 37 3, .f 38 1 3, .l 39 1 38, .c 40 70 [39], .cat 41 (.k (.v (.c (.str ⟨#[35]⟩)))) 40, .cat 42 37 41, .m 3 42]) .skip)) (.r [.m 43 3, .m 2 43] .ret)))))⟩
def c_i_KeyText : Fun := ⟨184, [], fun ts K => as1 ts fun t0 => arG pKeyT t0 fun k => K (.v (.c (.str (keyB k)))) []⟩
theorem run_i_KeyText (FU : Nat) (k : Key) : runK [c_strconv_Itoa, c_i_KeyOk] (10 + FU) [] pf_i_KeyText [tG (k.tc [])] fun r o => r = .v (.c (.str (keyB k))) ∧ o = [] := by
  have n0 := @keyB_no k
  have n1 := @keyB_0 k
  have n2 := @keyB_1 k
  have r1 := @keyOk_rng k
  have r2 := @keyOk_rng2 k
  have r3 := @headB_size k
  conv => whnf
  repeat' (first | ((first | refine sel_i (fun h => ?_) (fun h => ?_) | refine chk_c ?_ ?_) <;> conv => whnf) | refine And.intro ?_ rfl | (refine And.intro ?_ ?_ <;> conv => whnf))
  all_goals (try simp only [etaKey, Bool.not_eq_true', Bool.not_eq_false'] at *)
  all_goals first
    | (rw [n0 h]; done)
    | (have r2 := r2 h; refine ⟨?_⟩; exact ⟨by omega, by omega⟩)
    | (have r2 := r2 h
       have a := itoaB_size (n := k.base) ⟨by omega, by omega⟩
       have b := itoaB_size (n := k.top) ⟨by omega, by omega⟩
       have e1 : (⟨#[91]⟩ : ByteArray).size = 1 := rfl
       have e2 : (⟨#[44]⟩ : ByteArray).size = 1 := rfl
       have e3 : (⟨#[41]⟩ : ByteArray).size = 1 := rfl
       refine ⟨?_⟩; (try simp only [ByteArray.size_append]); omega)
    | skip
  have n1 := n1 h
  have n2 := n2 h
  have r1 := r1 h
  have r2 := r2 h
  have r3 := r3 h
  clear n0
  refine loop (α := Nat) (fun i => ⟨[(1, .v (.c (.ptr 0 0))), (3, .v (.c (.str (letsTo k.perms (headB k) i)))), (18, .v (.c (.int .i64 (i : Int))))],
      [(0, some (.box true [.int .i64 k.base, .int .i64 k.top, .int .i64 k.perms, .int .i64 k.sealed]))], nums.tail, [], false, []⟩)
    (fun i => i ≤ 6) (fun i => 6 - i) (fun i R hI hR => ?_) 0 _ (by omega) (by show 6 - 0 < 10 + FU; omega)
  have w1 : IntKind.i64.wrap ((i : Int) + 1) = ((i + 1 : Nat) : Int) := by rw [wrap_id (by omega) (by omega)]; rfl
  have hR := hR (i + 1)
  have hls := letsTo_size k.perms (headB k) i hI
  have hy := @letsTo_yes k.perms (headB k) i
  have hn := @letsTo_no k.perms (headB k) i
  generalize hx : letsTo k.perms (headB k) i = out at *
  have b01 : i < 6 → _ := fun q => bitP_01 r1.1 r1.2.1 q
  have l6 : ∀ j : Nat, (⟨#[108, 115, 114, 116, 112, 107]⟩ : ByteArray).extract j (j + 1) = letB j := fun _ => rfl
  have lg : i < 6 → ([letB 0, letB 1, letB 2, letB 3, letB 4, letB 5] : List ByteArray).getD i (FT.zero .str) = letB i := fun q => letB_at i q
  have e1 : (⟨#[35]⟩ : ByteArray).size = 1 := rfl
  have e2 : (⟨#[108, 115, 114, 116, 112, 107]⟩ : ByteArray).size = 6 := rfl
  have a := itoaB_size (n := k.sealed) ⟨by omega, by omega⟩
  conv => whnf
  repeat' (first | ((first | refine sel_i (fun h => ?_) (fun h => ?_) | refine chk_c ?_ ?_) <;> conv => whnf) | refine And.intro ?_ rfl | (refine And.intro ?_ ?_ <;> conv => whnf))
  all_goals (try simp only [w1, Int.toNat_natCast, decide_eq_true_eq, decide_eq_false_iff_not] at *)
  all_goals first
    | (refine ⟨?_⟩; omega)
    | (refine ⟨?_⟩; show i < 6; omega)
    | (refine ⟨?_⟩; exact ⟨by omega, by omega⟩)
    | (refine ⟨?_⟩; rw [lg (by omega)]; have := letB_size (i := i) (by omega); omega)
    | (refine ⟨?_⟩; rw [l6]; have := letB_size (i := i) (by omega); omega)
    | (refine ⟨?_⟩; (try simp only [ByteArray.size_append]); omega)
    | skip
  all_goals first
    | (have q : (bitP k.perms i == 1) = true := by assumption
       rw [hy (eq_of_beq q)] at hR
       exact hR (by omega) (by omega))
    | (have q : (bitP k.perms i == 1) = false := by assumption
       rw [hn (ne_of_beq_false q)] at hR
       exact hR (by omega) (by omega))
    | (have q : (bitP k.perms i != 0) = true := by assumption
       have q2 : bitP k.perms i = 1 := (b01 (by omega)).resolve_left (by simpa using q)
       rw [hy q2, ← lg (by omega)] at hR
       exact hR (by omega) (by omega))
    | (have q : (bitP k.perms i != 0) = false := by assumption
       have q2 : bitP k.perms i = 0 := by simpa using q
       rw [hn (by omega)] at hR
       exact hR (by omega) (by omega))
    | (have e : i = 6 := by omega
       subst e
       first
         | (have q : (k.sealed != 0) = true := by assumption
            first
              | (rw [n2 (by simpa using q), hx]; done)
              | (rw [n2 (by simpa using q), hx, ByteArray.append_assoc]; done))
         | (have q : (k.sealed != 0) = false := by assumption
            rw [n1 (by simpa using q), hx]; done))
    | trace_state
theorem ok_i_KeyText : FunOk Tryz.prog c_i_KeyText := funOk (eK ok_strconv_Itoa (eK ok_i_KeyOk eN)) mixd Tryz.func184 (pf := pf_i_KeyText) (by kernel_rfl) fun ts K h => by
  obtain ⟨t0, rfl, q0⟩ := as1_out h
  obtain ⟨k, rfl, q1⟩ := arG_out rd_key q0
  exact ⟨_, _, q1, nb 1 Tryz.f184 (by kernel_rfl), _, run_i_KeyText 0 k⟩

def pf_s_l19Letters : PF := ⟨[.t 0], .r [.mv 0 (.k (.v (.c (.nils .str))))] (.r [.bs 1 .str [(.k (.v (.c (.str ⟨#[108]⟩)))), (.k (.v (.c (.str ⟨#[115]⟩)))), (.k (.v (.c (.str ⟨#[114]⟩)))), (.k (.v (.c (.str ⟨#[116]⟩)))), (.k (.v (.c (.str ⟨#[112]⟩)))), (.k (.v (.c (.str ⟨#[107]⟩))))], .m 0 1] .ret)⟩
def c_s_l19Letters : Fun := ⟨145, [], fun ts K => as0 ts (K (tL true .str [letB 0, letB 1, letB 2, letB 3, letB 4, letB 5]) [])⟩
theorem run_s_l19Letters  : runK [] (0) [] pf_s_l19Letters [] fun r o => r = tL true .str [letB 0, letB 1, letB 2, letB 3, letB 4, letB 5] ∧ o = [] := by
  conv => whnf
  repeat' (first | ((first | refine sel_i (fun h => ?_) (fun h => ?_) | refine chk_c ?_ ?_) <;> conv => whnf) | refine And.intro ?_ rfl | (refine And.intro ?_ ?_ <;> conv => whnf))
  all_goals rfl
theorem ok_s_l19Letters : FunOk Tryz.prog c_s_l19Letters := funOk (eN) mixd Tryz.func145 (pf := pf_s_l19Letters) (by kernel_rfl) fun ts K h => by
  obtain ⟨rfl, q0⟩ := as0_out h
  exact ⟨_, _, q0, nb 0 Tryz.f145 (by kernel_rfl), _, run_s_l19Letters ⟩

def pf_i_WordText : PF := ⟨[.t 2], .r [.box 1 0, .mv 2 (.k (.v (.c (.str ⟨#[]⟩))))] (.seq (.r [.L 4 6 1, .c 5 65 [4], .bnot 6 5] (.cond 6 (.r [.mv 2 (.k (.v (.c (.str ⟨#[]⟩))))] .ret) .skip)) (.r [.f 7 1 0, .l 8 1 7, .c 9 70 [8], .m 3 9] (.seq (.r [.f 10 1 1, .l 11 1 10] (.cond 11 (.reg [.m 12 3, .f 13 1 2, .L 14 4 13, .c 15 184 [14], .cat 16 (.k (.v (.c (.str ⟨#[32]⟩)))) 15, .cat 17 12 16, .m 3 17]) .skip)) (.r [.m 18 3, .m 2 18] .ret))))⟩
def c_i_WordText : Fun := ⟨129, [], fun ts K => as1 ts fun t0 => arG pWordT t0 fun w => K (.v (.c (.str (wordB w)))) []⟩
theorem run_i_WordText (w : Word) : runK [c_i_WordOk, c_strconv_Itoa, c_i_KeyText] (0) [] pf_i_WordText [tG (w.tc [])] fun r o => r = .v (.c (.str (wordB w))) ∧ o = [] := by
  have n0 := @wordB_no w
  have n1 := @wordB_is w
  have n2 := @wordB_n w
  have r1 := @wordOk_n w
  have k1 := keyB_size w.key
  have e1 : (⟨#[32]⟩ : ByteArray).size = 1 := rfl
  conv => whnf
  repeat' (first | ((first | refine sel_i (fun h => ?_) (fun h => ?_) | refine chk_c ?_ ?_) <;> conv => whnf) | refine And.intro ?_ rfl | (refine And.intro ?_ ?_ <;> conv => whnf))
  all_goals (try simp only [etaKey, etaWord, Bool.not_eq_true', Bool.not_eq_false'] at *)
  all_goals first
    | (rw [n0 (by assumption)]; done)
    | (rw [n2 (by assumption) (by assumption)]; done)
    | (rw [n1 (by assumption) (by assumption)]; done)
    | (have r1 := r1 (by assumption); refine ⟨?_⟩; exact ⟨by omega, by omega⟩)
    | (have r1 := r1 (by assumption)
       have a := itoaB_size (n := w.n) ⟨by omega, by omega⟩
       refine ⟨?_⟩; (try simp only [ByteArray.size_append]); omega)
    | trace_state
theorem ok_i_WordText : FunOk Tryz.prog c_i_WordText := funOk (eK ok_i_WordOk (eK ok_strconv_Itoa (eK ok_i_KeyText eN))) mixd Tryz.func129 (pf := pf_i_WordText) (by kernel_rfl) fun ts K h => by
  obtain ⟨t0, rfl, q0⟩ := as1_out h
  obtain ⟨w, rfl, q1⟩ := arG_out rd_word q0
  exact ⟨_, _, q1, nb 1 Tryz.f129 (by kernel_rfl), _, run_i_WordText w⟩

def lb_s_KeyText_0 : PC := .seq (.r [.m 18 4, .bin 19 .lss 18 (.i 6)] (.cond 19 .skip (.exit 0))) (.seq (.blk 1 (.r [.f 22 1 2, .l 23 1 22, .m 24 4, .bin 25 .shr 23 24, .bin 26 .and 25 (.i 1), .bin 27 .neq 26 (.i 0)] (.cond 27 (.reg [.m 28 3, .c 29 145 [], .m 30 4, .ia 31 .str 29 30, .l 32 1 31, .cat 33 28 32, .m 3 33]) .skip))) (.reg [.m 20 4, .bin 21 .add 20 (.i 1), .m 4 21]))
def pf_s_KeyText : PF := ⟨[.t 2], .r [.box 1 0, .mv 2 (.k (.v (.c (.str ⟨#[]⟩))))] (.seq (.r [.L 5 4 1, .c 6 90 [5], .bnot 7 6] (.cond 7 (.r [.mv 2 (.k (.v (.c (.str ⟨#[]⟩))))] .ret) .skip)) (.seq (.rgd [] [.f 8 1 0, .l 9 1 8, .c 10 18 [9], .cat 11 (.k (.v (.c (.str ⟨#[91]⟩)))) 10, .cat 12 11 (.k (.v (.c (.str ⟨#[44]⟩)))), .f 13 1 1, .l 14 1 13, .c 15 18 [14], .cat 16 12 15, .cat 17 16 (.k (.v (.c (.str ⟨#[41]⟩)))), .m 3 17] (.ts [0, 1, 5, 6] (.one 2 false (.ts [3, 4] (.one 7 true (.ts [8, 9, 10] .d)))))) (.seq (.r [.mv 4 (.i 0)] (.blk 0 (.loop [1, 3, 4] lb_s_KeyText_0))) (.seq (.r [.f 34 1 3, .l 35 1 34, .bin 36 .neq 35 (.i 0)] (.cond 36 (.r [.m 37 3, .cat 38 37 (.k (.v (.c (.str ⟨#[35]⟩)))), .f 39 1 3, .l 40 1 39, .c 41 18 [40], .cat 42 38 41, .m 2 42] .ret) .skip)) (.r [.m 43 3, .m 2 43] .ret)))))⟩
def c_s_KeyText : Fun := ⟨94, [], fun ts K => as1 ts fun t0 => arG pKeyT t0 fun k => K (.v (.c (.str (keyB k)))) []⟩
theorem run_s_KeyText (FU : Nat) (k : Key) : runK [c_s_l7Digits, c_s_KeyOk, c_s_l19Letters] (10 + FU) [] pf_s_KeyText [tG (k.tc [])] fun r o => r = .v (.c (.str (keyB k))) ∧ o = [] := by
  have n0 := @keyB_no k
  have n1 := @keyB_0 k
  have n2 := @keyB_1 k
  have r1 := @keyOk_rng k
  have r2 := @keyOk_rng2 k
  have r3 := @headB_size k
  conv => whnf
  repeat' (first | ((first | refine sel_i (fun h => ?_) (fun h => ?_) | refine chk_c ?_ ?_) <;> conv => whnf) | refine And.intro ?_ rfl | (refine And.intro ?_ ?_ <;> conv => whnf))
  all_goals (try simp only [etaKey, Bool.not_eq_true', Bool.not_eq_false'] at *)
  all_goals first
    | (rw [n0 h]; done)
    | (have r2 := r2 h; refine ⟨?_⟩; exact ⟨by omega, by omega⟩)
    | (have r2 := r2 h
       have a := itoaB_size (n := k.base) ⟨by omega, by omega⟩
       have b := itoaB_size (n := k.top) ⟨by omega, by omega⟩
       have e1 : (⟨#[91]⟩ : ByteArray).size = 1 := rfl
       have e2 : (⟨#[44]⟩ : ByteArray).size = 1 := rfl
       have e3 : (⟨#[41]⟩ : ByteArray).size = 1 := rfl
       refine ⟨?_⟩; (try simp only [ByteArray.size_append]); omega)
    | skip
  have n1 := n1 h
  have n2 := n2 h
  have r1 := r1 h
  have r2 := r2 h
  have r3 := r3 h
  clear n0
  refine loop (α := Nat) (fun i => ⟨[(1, .v (.c (.ptr 0 0))), (3, .v (.c (.str (letsTo k.perms (headB k) i)))), (4, .v (.c (.int .i64 (i : Int))))],
      [(0, some (.box true [.int .i64 k.base, .int .i64 k.top, .int .i64 k.perms, .int .i64 k.sealed]))], nums.tail, [], false, []⟩)
    (fun i => i ≤ 6) (fun i => 6 - i) (fun i R hI hR => ?_) 0 _ (by omega) (by show 6 - 0 < 10 + FU; omega)
  have w1 : IntKind.i64.wrap ((i : Int) + 1) = ((i + 1 : Nat) : Int) := by rw [wrap_id (by omega) (by omega)]; rfl
  have hR := hR (i + 1)
  have hls := letsTo_size k.perms (headB k) i hI
  have hy := @letsTo_yes k.perms (headB k) i
  have hn := @letsTo_no k.perms (headB k) i
  generalize hx : letsTo k.perms (headB k) i = out at *
  have b01 : i < 6 → _ := fun q => bitP_01 r1.1 r1.2.1 q
  have l6 : ∀ j : Nat, (⟨#[108, 115, 114, 116, 112, 107]⟩ : ByteArray).extract j (j + 1) = letB j := fun _ => rfl
  have lg : i < 6 → ([letB 0, letB 1, letB 2, letB 3, letB 4, letB 5] : List ByteArray).getD i (FT.zero .str) = letB i := fun q => letB_at i q
  have e1 : (⟨#[35]⟩ : ByteArray).size = 1 := rfl
  have e2 : (⟨#[108, 115, 114, 116, 112, 107]⟩ : ByteArray).size = 6 := rfl
  have a := itoaB_size (n := k.sealed) ⟨by omega, by omega⟩
  conv => whnf
  repeat' (first | ((first | refine sel_i (fun h => ?_) (fun h => ?_) | refine chk_c ?_ ?_) <;> conv => whnf) | refine And.intro ?_ rfl | (refine And.intro ?_ ?_ <;> conv => whnf))
  all_goals (try simp only [w1, Int.toNat_natCast, decide_eq_true_eq, decide_eq_false_iff_not] at *)
  all_goals first
    | (refine ⟨?_⟩; omega)
    | (refine ⟨?_⟩; show i < 6; omega)
    | (refine ⟨?_⟩; exact ⟨by omega, by omega⟩)
    | (refine ⟨?_⟩; rw [lg (by omega)]; have := letB_size (i := i) (by omega); omega)
    | (refine ⟨?_⟩; rw [l6]; have := letB_size (i := i) (by omega); omega)
    | (refine ⟨?_⟩; (try simp only [ByteArray.size_append]); omega)
    | skip
  all_goals first
    | (have q : (bitP k.perms i == 1) = true := by assumption
       rw [hy (eq_of_beq q)] at hR
       exact hR (by omega) (by omega))
    | (have q : (bitP k.perms i == 1) = false := by assumption
       rw [hn (ne_of_beq_false q)] at hR
       exact hR (by omega) (by omega))
    | (have q : (bitP k.perms i != 0) = true := by assumption
       have q2 : bitP k.perms i = 1 := (b01 (by omega)).resolve_left (by simpa using q)
       rw [hy q2, ← lg (by omega)] at hR
       exact hR (by omega) (by omega))
    | (have q : (bitP k.perms i != 0) = false := by assumption
       have q2 : bitP k.perms i = 0 := by simpa using q
       rw [hn (by omega)] at hR
       exact hR (by omega) (by omega))
    | (have e : i = 6 := by omega
       subst e
       first
         | (have q : (k.sealed != 0) = true := by assumption
            first
              | (rw [n2 (by simpa using q), hx]; done)
              | (rw [n2 (by simpa using q), hx, ByteArray.append_assoc]; done))
         | (have q : (k.sealed != 0) = false := by assumption
            rw [n1 (by simpa using q), hx]; done))
    | trace_state
theorem ok_s_KeyText : FunOk Tryz.prog c_s_KeyText := funOk (eK ok_s_l7Digits (eK ok_s_KeyOk (eK ok_s_l19Letters eN))) mixd Tryz.func94 (pf := pf_s_KeyText) (by kernel_rfl) fun ts K h => by
  obtain ⟨t0, rfl, q0⟩ := as1_out h
  obtain ⟨k, rfl, q1⟩ := arG_out rd_key q0
  exact ⟨_, _, q1, nb 1 Tryz.f94 (by kernel_rfl), _, run_s_KeyText 0 k⟩

def pf_s_WordText : PF := ⟨[.t 2], .r [.box 1 0, .mv 2 (.k (.v (.c (.str ⟨#[]⟩))))] (.seq (.blk 0 (.r [.L 4 6 1, .c 5 42 [4], .bnot 6 5, .m 3 6] (.cond 3 (.r [.mv 2 (.k (.v (.c (.str ⟨#[]⟩))))] .ret) (.r [.f 8 1 1, .l 9 1 8, .m 7 9] (.cond 7 (.seq (.rgd [] [.f 10 1 0, .l 11 1 10, .c 12 18 [11], .cat 13 12 (.k (.v (.c (.str ⟨#[32]⟩)))), .f 14 1 2, .L 15 4 14, .c 16 94 [15], .cat 17 13 16, .m 2 17] (.ts [0, 1, 4, 5] (.one 2 false (.tk 3 (.one 6 true (.ts [7, 8] .d)))))) .ret) .skip))))) (.r [.f 18 1 0, .l 19 1 18, .c 20 18 [19], .m 2 20] .ret))⟩
def c_s_WordText : Fun := ⟨48, [], fun ts K => as1 ts fun t0 => arG pWordT t0 fun w => K (.v (.c (.str (wordB w)))) []⟩
theorem run_s_WordText (w : Word) : runK [c_s_l7Digits, c_s_WordOk, c_s_KeyText] (0) [] pf_s_WordText [tG (w.tc [])] fun r o => r = .v (.c (.str (wordB w))) ∧ o = [] := by
  have n0 := @wordB_no w
  have n1 := @wordB_is w
  have n2 := @wordB_n w
  have r1 := @wordOk_n w
  have k1 := keyB_size w.key
  have e1 : (⟨#[32]⟩ : ByteArray).size = 1 := rfl
  conv => whnf
  repeat' (first | ((first | refine sel_i (fun h => ?_) (fun h => ?_) | refine chk_c ?_ ?_) <;> conv => whnf) | refine And.intro ?_ rfl | (refine And.intro ?_ ?_ <;> conv => whnf))
  all_goals (try simp only [etaKey, etaWord, Bool.not_eq_true', Bool.not_eq_false'] at *)
  all_goals first
    | (rw [n0 (by assumption)]; done)
    | (rw [n2 (by assumption) (by assumption)]; done)
    | (rw [n1 (by assumption) (by assumption), ByteArray.append_assoc]; done)
    | (have r1 := r1 (by assumption); refine ⟨?_⟩; exact ⟨by omega, by omega⟩)
    | (have r1 := r1 (by assumption)
       have a := itoaB_size (n := w.n) ⟨by omega, by omega⟩
       refine ⟨?_⟩; (try simp only [ByteArray.size_append]); omega)
    | trace_state
theorem ok_s_WordText : FunOk Tryz.prog c_s_WordText := funOk (eK ok_s_l7Digits (eK ok_s_WordOk (eK ok_s_KeyText eN))) mixd Tryz.func48 (pf := pf_s_WordText) (by kernel_rfl) fun ts K h => by
  obtain ⟨t0, rfl, q0⟩ := as1_out h
  obtain ⟨w, rfl, q1⟩ := arG_out rd_word q0
  exact ⟨_, _, q1, nb 1 Tryz.f48 (by kernel_rfl), _, run_s_WordText w⟩

/-! a run by numbers -/
def runStep (l : List Inst) (v : State) (n : Int) : State := if n < 0 then stepS l v else ⟨v.regs, v.pc, sweepM v.mem n, v.trap⟩
def runS (l : List Inst) (s : State) (ns : List Int) : State := if stateOk s = false then zState else if 600 < ns.length then s else ns.foldl (runStep l) s
theorem sweepM_lm {m : Mem} {n : Int} {k : Nat} (h : LMem m k) : LMem (sweepM m n) k := by
  obtain ⟨h1, h2⟩ := h
  unfold sweepM
  split
  · split
    · exact ⟨by dsimp only; rw [List.length_set]; exact h1, h2⟩
    · exact ⟨h1, h2⟩
  · exact ⟨Nat.zero_le _, Nat.zero_le _⟩
theorem runStep_len {l : List Inst} {v : State} {n : Int} {k : Nat} (h : LState v k) : LState (runStep l v n) k := by
  unfold runStep
  split
  · exact stepS_len h
  · exact ⟨h.1, sweepM_lm h.2⟩
theorem foldRun_len {l : List Inst} {k : Nat} : ∀ {ns : List Int} {v : State}, LState v k → LState (ns.foldl (runStep l) v) k
  | [], _, h => h
  | n :: ns, v, h => foldRun_len (ns := ns) (v := runStep l v n) (runStep_len h)
theorem runS_len {l : List Inst} {s : State} {ns : List Int} {k : Nat} (h : LState s k) : LState (runS l s ns) k := by
  unfold runS
  split
  · exact ⟨Nat.zero_le _, Nat.zero_le _, Nat.zero_le _⟩
  · split
    · exact h
    · exact foldRun_len h
theorem runS_no {l : List Inst} {s : State} {ns : List Int} (h : stateOk s = false) : runS l s ns = zState := if_pos h
theorem runS_long {l : List Inst} {s : State} {ns : List Int} (h : stateOk s = true) (h2 : 600 < ns.length) : runS l s ns = s := by unfold runS; rw [if_neg (by rw [h]; decide), if_pos h2]
theorem runS_go {l : List Inst} {s : State} {ns : List Int} (h : stateOk s = true) (h2 : ¬ 600 < ns.length) : runS l s ns = ns.foldl (runStep l) s := by unfold runS; rw [if_neg (by rw [h]; decide), if_neg h2]
theorem fold_step {α β : Type} {f : β → α → β} {z : α} {xs : List α} {s v : β} {i : Nat} (h : i < xs.length) (hx : xs.foldl f s = (xs.drop i).foldl f v) : xs.foldl f s = (xs.drop (i + 1)).foldl f (f v (xs.getD i z)) := by
  have e : xs.getD i z = xs[i] := by simp [List.getD_eq_getElem?_getD, h]
  rw [hx, List.drop_eq_getElem_cons h, List.foldl_cons, e]
theorem fold_end {α β : Type} {f : β → α → β} {xs : List α} {s v : β} {i : Nat} (h : xs.length ≤ i) (hx : xs.foldl f s = (xs.drop i).foldl f v) : xs.foldl f s = v := by
  rw [hx, List.drop_eq_nil_of_le h]; rfl

def lb_i_Run_0 : PC := .r [.bin 23 .lss 22 21] (.seq (.cond 23 .skip (.exit 0)) (.seq (.blk 1 (.r [.ia 24 (.int .i64) 20 22, .l 25 1 24, .m 9 25] (.r [.m 26 9, .bin 27 .geq 26 (.i 0)] (.cond 27 (.reg [.f 28 7 7, .L 29 2 28, .m 30 9, .c 31 167 [29, 30], .f 32 7 7, .o 2 32 31]) (.reg [.m 33 0, .L 34 10 7, .c 35 178 [33, 34], .o 10 7 35]))))) (.reg [.bin 36 .add 22 (.i 1), .m 22 36])))
def pf_i_Run : PF := ⟨[.c 6 true 10], .r [.box 4 1, .alloc 6 zcS] (.seq (.r [.L 10 10 4, .c 11 61 [10], .bnot 12 11] (.cond 12 (.r [.build 13 zcS [], .o 10 6 13] .ret) .skip)) (.r [.L 14 10 4, .c 15 108 [14], .alloc 7 zcS, .o 10 7 15] (.seq (.r [.m 16 2, .len 17 false 16, .bin 18 .gtr 17 (.i 600)] (.cond 18 (.r [.L 19 10 7, .o 10 6 19] .ret) .skip)) (.seq (.r [.m 20 2, .len 21 false 20, .mv 22 (.i 0)] (.blk 0 (.loop [0, 6, 7, 20, 21, 22] lb_i_Run_0))) (.r [.L 37 10 7, .o 10 6 37] .ret)))))⟩
def c_i_Run : Fun := ⟨125, [], fun ts K => as3 ts fun t0 t1 t2 => arC (pL .inst) t0 fun l => arG pStateT t1 fun s => arC (pL (.int .i64)) t2 fun ns => chk (l.length ≤ 2147483647 ∧ LState s 2147483647 ∧ ns.length ≤ 2147483647) (K (tG ((runS l s ns).tc true [])) [])⟩
theorem run_i_Run (FU : Nat) (l : List (FT.Ty .inst)) (s : State) (ns : List (FT.Ty (.int .i64))) (hpre : l.length ≤ 2147483647 ∧ LState s 2147483647 ∧ ns.length ≤ 2147483647) : runK [c_i_StateOk, c_i_cloneState, c_i_Sweep, c_i_Step] (2147483700 + FU) [] pf_i_Run [tL false .inst l, tG (s.tc false []), tL false (.int .i64) ns] fun r o => r = tG ((runS l s ns).tc true []) ∧ o = [] := by
  obtain ⟨l1, l2, l3⟩ := hpre
  conv => whnf
  repeat' (first | ((first | refine sel_i (fun h => ?_) (fun h => ?_) | refine chk_c ?_ ?_) <;> conv => whnf) | refine And.intro ?_ rfl | (refine And.intro ?_ ?_ <;> conv => whnf))
  all_goals (try simp only [etaKey, etaWord, etaMemory, etaState, Int.toNat_natCast, ge_iff_le, gt_iff_lt, Bool.not_eq_true', Bool.not_eq_false', decide_eq_true_eq, decide_eq_false_iff_not] at *)
  all_goals first
    | (refine ⟨?_⟩; assumption)
    | (rw [runS_no (by assumption)]; rfl)
    | (rw [runS_long (by assumption) (by omega)]; rfl)
    | skip
  have hok : stateOk s = true := by assumption
  refine loop (α := Nat × State) (fun q => ⟨[(0, .v (.c (.sl false .inst 0))), (6, .v (.c (.ptr 1 0))), (7, .v (.c (.ptr 2 0))), (20, .v (.c (.sl false (.int .i64) 6))), (21, .v (.c (.int .i64 (ns.length : Int)))), (22, .v (.c (.int .i64 (q.1 : Int))))],
        [(6, some (.flat false (.int .i64) none ns)), (5, some (.flat true .bool none q.2.mem.gone)), (4, some (.flat true .word none q.2.mem.words)), (3, some (.flat true .word none q.2.regs)), (2, some (.box true (stC q.2 3 4 5 []))), (1, some (.box true zSC)), (0, some (.flat false .inst none l))], nums.tail.tail.tail.tail.tail.tail.tail, [], false, []⟩)
    (fun q => q.1 ≤ ns.length ∧ LState q.2 2147483647 ∧ ns.foldl (runStep l) s = (ns.drop q.1).foldl (runStep l) q.2 ∧ (600 < ns.length → q.2 = s)) (fun q => ns.length - q.1) (fun q R hI hR => ?_) (0, s) _ ⟨Nat.zero_le _, l2, rfl, fun _ => rfl⟩ (by show ns.length - 0 < 2147483700 + FU; omega)
  obtain ⟨k, v⟩ := q
  obtain ⟨hk, hl, hg, hz⟩ := hI
  dsimp only at hk hl hg hz hR ⊢
  have lm : LMem v.mem 2147483647 := hl.2
  have w1 : IntKind.i64.wrap ((k : Int) + 1) = ((k + 1 : Nat) : Int) := by rw [wrap_id (by omega) (by omega)]; rfl
  have y1 : ns.getD k (FT.zero (.int .i64)) < 0 → runStep l v (ns.getD k (FT.zero (.int .i64))) = stepS l v := fun h => if_pos h
  have y2 : ¬ ns.getD k (FT.zero (.int .i64)) < 0 → runStep l v (ns.getD k (FT.zero (.int .i64))) = ⟨v.regs, v.pc, sweepM v.mem (ns.getD k (FT.zero (.int .i64))), v.trap⟩ := fun h => if_neg h
  conv => whnf
  repeat' (first | ((first | refine sel_i (fun h => ?_) (fun h => ?_) | refine chk_c ?_ ?_) <;> conv => whnf) | refine And.intro ?_ rfl | (refine And.intro ?_ ?_ <;> conv => whnf))
  all_goals (try simp only [etaKey, etaWord, etaMemory, etaState, w1, Int.toNat_natCast, ge_iff_le, gt_iff_lt, Bool.not_eq_true', Bool.not_eq_false', decide_eq_true_eq, decide_eq_false_iff_not] at *)
  all_goals first
    | (refine ⟨?_⟩; assumption)
    | (refine ⟨?_⟩; exact ⟨by assumption, by assumption⟩)
    | (refine ⟨?_⟩; omega)
    | (rw [runS_go hok (by omega), fold_end (by omega) hg]; rfl)
    | (rw [runS_long hok (by omega), hz (by omega)]; rfl)
    | (rcases Nat.lt_or_ge 600 ns.length with q | q
       · rw [runS_long hok q, hz q]; rfl
       · rw [runS_go hok (by omega), fold_end (by omega) hg]; rfl)
    | (have q : ns.getD k (FT.zero (.int .i64)) < 0 := by first | assumption | exact Int.not_le.1 (by assumption)
       exact hR (k + 1, stepS l v) ⟨by dsimp only; omega, stepS_len hl, by rw [← y1 q]; exact fold_step (by omega) hg, fun _ => by omega⟩ (by dsimp only; omega))
    | (have q : ¬ ns.getD k (FT.zero (.int .i64)) < 0 := by first | assumption | exact Int.not_lt.2 (by assumption)
       exact hR (k + 1, ⟨v.regs, v.pc, sweepM v.mem (ns.getD k (FT.zero (.int .i64))), v.trap⟩) ⟨by dsimp only; omega, ⟨hl.1, sweepM_lm lm⟩, by rw [← y2 q]; exact fold_step (by omega) hg, fun _ => by omega⟩ (by dsimp only; omega))
    | trace_state
theorem ok_i_Run : FunOk Tryz.prog c_i_Run := funOk (eK ok_i_StateOk (eK ok_i_cloneState (eK ok_i_Sweep (eK ok_i_Step eN)))) mixd Tryz.func125 (pf := pf_i_Run) (by kernel_rfl) fun ts K h => by
  obtain ⟨t0, t1, t2, rfl, q0⟩ := as3_out h
  obtain ⟨l, rfl, q1⟩ := arC_out (rd_l .inst) q0
  obtain ⟨s, rfl, q2⟩ := arG_out rd_state q1
  obtain ⟨ns, rfl, q3⟩ := arC_out (rd_l (.int .i64)) q2
  obtain ⟨hpre, hk⟩ := chk_o q3
  exact ⟨_, _, hk, nb 3 Tryz.f125 (by kernel_rfl), _, run_i_Run 0 l s ns hpre⟩

def lb_s_Run_0 : PC := .seq (.r [.m 15 8, .m 16 2, .len 17 false 16, .bin 18 .lss 15 17, .m 19 18, .y 19 20 (.mv 20 2), .y 19 21 (.len 21 false 20), .y 19 22 (.bin 22 .leq 21 (.i 600)), .pick 23 19 22 .F] (.cond 23 .skip (.exit 0))) (.seq (.blk 1 (.r [.m 26 2, .m 27 8, .ia 28 (.int .i64) 26 27, .l 29 1 28, .bin 30 .lss 29 (.i 0)] (.cond 30 (.reg [.m 31 0, .L 32 10 7, .c 33 144 [31, 32], .o 10 7 33]) (.rgd [] [.f 34 7 7, .L 35 2 34, .m 36 2, .m 37 8, .ia 38 (.int .i64) 36 37, .l 39 1 38, .c 40 52 [35, 39], .f 41 7 7, .o 2 41 40] (.ts [0, 1, 2, 3, 4, 5] (.one 6 true (.tk 7 (.one 8 true .d)))))))) (.reg [.m 24 8, .bin 25 .add 24 (.i 1), .m 8 25]))
def pf_s_Run : PF := ⟨[.c 6 true 10], .r [.box 4 1, .alloc 6 zcS] (.seq (.r [.L 9 10 4, .c 10 41 [9], .bnot 11 10] (.cond 11 (.r [.build 12 zcS [], .o 10 6 12] .ret) .skip)) (.r [.L 13 10 4, .c 14 87 [13], .alloc 7 zcS, .o 10 7 14] (.seq (.r [.mv 8 (.i 0)] (.blk 0 (.loop [0, 2, 6, 7, 8] lb_s_Run_0))) (.r [.L 42 10 7, .o 10 6 42] .ret))))⟩
def c_s_Run : Fun := ⟨93, [], fun ts K => as3 ts fun t0 t1 t2 => arC (pL .inst) t0 fun l => arG pStateT t1 fun s => arC (pL (.int .i64)) t2 fun ns => chk (l.length ≤ 2147483647 ∧ LState s 2147483647 ∧ ns.length ≤ 2147483647) (K (tG ((runS l s ns).tc true [])) [])⟩
theorem run_s_Run (FU : Nat) (l : List (FT.Ty .inst)) (s : State) (ns : List (FT.Ty (.int .i64))) (hpre : l.length ≤ 2147483647 ∧ LState s 2147483647 ∧ ns.length ≤ 2147483647) : runK [c_s_StateOk, c_s_Sweep, c_s_l9Copy, c_s_Step] (2147483700 + FU) [] pf_s_Run [tL false .inst l, tG (s.tc false []), tL false (.int .i64) ns] fun r o => r = tG ((runS l s ns).tc true []) ∧ o = [] := by
  obtain ⟨l1, l2, l3⟩ := hpre
  conv => whnf
  repeat' (first | ((first | refine sel_i (fun h => ?_) (fun h => ?_) | refine chk_c ?_ ?_) <;> conv => whnf) | refine And.intro ?_ rfl | (refine And.intro ?_ ?_ <;> conv => whnf))
  all_goals (try simp only [etaKey, etaWord, etaMemory, etaState, Int.toNat_natCast, ge_iff_le, gt_iff_lt, Bool.not_eq_true', Bool.not_eq_false', decide_eq_true_eq, decide_eq_false_iff_not] at *)
  all_goals first
    | (refine ⟨?_⟩; assumption)
    | (rw [runS_no (by assumption)]; rfl)
    | (rw [runS_long (by assumption) (by omega)]; rfl)
    | skip
  have hok : stateOk s = true := by assumption
  refine loop (α := Nat × State) (fun q => ⟨[(0, .v (.c (.sl false .inst 0))), (2, .v (.c (.sl false (.int .i64) 1))), (6, .v (.c (.ptr 2 0))), (7, .v (.c (.ptr 3 0))), (8, .v (.c (.int .i64 (q.1 : Int))))],
        [(6, some (.flat true .bool none q.2.mem.gone)), (5, some (.flat true .word none q.2.mem.words)), (4, some (.flat true .word none q.2.regs)), (3, some (.box true (stC q.2 4 5 6 []))), (2, some (.box true zSC)), (1, some (.flat false (.int .i64) none ns)), (0, some (.flat false .inst none l))], nums.tail.tail.tail.tail.tail.tail.tail, [], false, []⟩)
    (fun q => q.1 ≤ ns.length ∧ LState q.2 2147483647 ∧ ns.foldl (runStep l) s = (ns.drop q.1).foldl (runStep l) q.2 ∧ (600 < ns.length → q.2 = s)) (fun q => ns.length - q.1) (fun q R hI hR => ?_) (0, s) _ ⟨Nat.zero_le _, l2, rfl, fun _ => rfl⟩ (by show ns.length - 0 < 2147483700 + FU; omega)
  obtain ⟨k, v⟩ := q
  obtain ⟨hk, hl, hg, hz⟩ := hI
  dsimp only at hk hl hg hz hR ⊢
  have lm : LMem v.mem 2147483647 := hl.2
  have w1 : IntKind.i64.wrap ((k : Int) + 1) = ((k + 1 : Nat) : Int) := by rw [wrap_id (by omega) (by omega)]; rfl
  have y1 : ns.getD k (FT.zero (.int .i64)) < 0 → runStep l v (ns.getD k (FT.zero (.int .i64))) = stepS l v := fun h => if_pos h
  have y2 : ¬ ns.getD k (FT.zero (.int .i64)) < 0 → runStep l v (ns.getD k (FT.zero (.int .i64))) = ⟨v.regs, v.pc, sweepM v.mem (ns.getD k (FT.zero (.int .i64))), v.trap⟩ := fun h => if_neg h
  conv => whnf
  repeat' (first | ((first | refine sel_i (fun h => ?_) (fun h => ?_) | refine chk_c ?_ ?_) <;> conv => whnf) | refine And.intro ?_ rfl | (refine And.intro ?_ ?_ <;> conv => whnf))
  all_goals (try simp only [etaKey, etaWord, etaMemory, etaState, w1, Int.toNat_natCast, ge_iff_le, gt_iff_lt, Bool.not_eq_true', Bool.not_eq_false', decide_eq_true_eq, decide_eq_false_iff_not] at *)
  all_goals first
    | (refine ⟨?_⟩; assumption)
    | (refine ⟨?_⟩; exact ⟨by assumption, by assumption⟩)
    | (refine ⟨?_⟩; omega)
    | (rw [runS_go hok (by omega), fold_end (by omega) hg]; rfl)
    | (rw [runS_long hok (by omega), hz (by omega)]; rfl)
    | (rcases Nat.lt_or_ge 600 ns.length with q | q
       · rw [runS_long hok q, hz q]; rfl
       · rw [runS_go hok (by omega), fold_end (by omega) hg]; rfl)
    | (have q : ns.getD k (FT.zero (.int .i64)) < 0 := by first | assumption | exact Int.not_le.1 (by assumption)
       exact hR (k + 1, stepS l v) ⟨by dsimp only; omega, stepS_len hl, by rw [← y1 q]; exact fold_step (by omega) hg, fun _ => by omega⟩ (by dsimp only; omega))
    | (have q : ¬ ns.getD k (FT.zero (.int .i64)) < 0 := by first | assumption | exact Int.not_lt.2 (by assumption)
       exact hR (k + 1, ⟨v.regs, v.pc, sweepM v.mem (ns.getD k (FT.zero (.int .i64))), v.trap⟩) ⟨by dsimp only; omega, ⟨hl.1, sweepM_lm lm⟩, by rw [← y2 q]; exact fold_step (by omega) hg, fun _ => by omega⟩ (by dsimp only; omega))
    | trace_state
theorem ok_s_Run : FunOk Tryz.prog c_s_Run := funOk (eK ok_s_StateOk (eK ok_s_Sweep (eK ok_s_l9Copy (eK ok_s_Step eN)))) mixd Tryz.func93 (pf := pf_s_Run) (by kernel_rfl) fun ts K h => by
  obtain ⟨t0, t1, t2, rfl, q0⟩ := as3_out h
  obtain ⟨l, rfl, q1⟩ := arC_out (rd_l .inst) q0
  obtain ⟨s, rfl, q2⟩ := arG_out rd_state q1
  obtain ⟨ns, rfl, q3⟩ := arC_out (rd_l (.int .i64)) q2
  obtain ⟨hpre, hk⟩ := chk_o q3
  exact ⟨_, _, hk, nb 3 Tryz.f93 (by kernel_rfl), _, run_s_Run 0 l s ns hpre⟩
end Go.Pi
