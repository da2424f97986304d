/- Contracts of functions, each out of its run by PI. No conditions. -/
import Derived.Test.YtgpchgakonpcfaaGreatDoorC6
namespace Go.Pi
open Go.Proofs
set_option linter.unusedVariables false
set_option linter.unusedSimpArgs false
set_option maxRecDepth 100000
attribute [local irreducible] iterN
/-! a core and a desk: sizes, copies, marks -/
def szCore (c : Core) (k : Int) : Int := szB (szState c.s k) fun k => szB (szr k c.rob.length) fun k => szr k c.guesses.length
def szDesk (d : Desk) (k : Int) : Int := szB (szr k d.list.length) fun k => szB (szCore d.c k) fun k => szr k d.order.length
def LDesk (d : Desk) (n : Nat) : Prop := d.list.length ≤ n ∧ LCore d.c n ∧ d.order.length ≤ n
theorem szState_bnd (m : State) {k : Int} (h : 0 ≤ k) : -1 ≤ szState m k ∧ szState m k ≤ k := by
  have h2 := szr_ge (k := k) (n := m.regs.length)
  have h3 := szr_le (n := m.regs.length) h
  unfold szState szB
  split
  · omega
  · rename_i hp
    have h4 := szMem_ge m.mem (k := szr k m.regs.length) (by omega)
    have h5 := szMem_le (m := m.mem) (k := szr k m.regs.length) (by omega)
    dsimp only
    exact ⟨h4, by omega⟩
theorem szr_bnd (n : Nat) {k : Int} (h : 0 ≤ k) : -1 ≤ szr k n ∧ szr k n ≤ k := ⟨szr_ge, szr_le h⟩
theorem szCore_bnd (c : Core) {k : Int} (h : 0 ≤ k) : -1 ≤ szCore c k ∧ szCore c k ≤ k := by
  have h1 := szState_bnd c.s h
  have h2 : 0 ≤ szState c.s k → _ := fun q => szr_bnd c.rob.length q
  have h3 : 0 ≤ szr (szState c.s k) c.rob.length → _ := fun q => szr_bnd c.guesses.length q
  unfold szCore szB
  split
  · omega
  · dsimp only
    split
    · omega
    · have h2 := h2 (by omega)
      have h3 := h3 (by omega)
      omega
theorem szCore_n {c : Core} {k : Int} (h0 : k ≤ 1048576) (h : 0 ≤ szCore c k) : LCore c 1048576 := by
  obtain ⟨h1, h2, _⟩ := szB_pos h
  obtain ⟨h3, h4, _⟩ := szB_pos h2
  have h5 := szState_n h0 h1
  have h6 := szr_n h3; have h7 := szr_n h4
  rcases Int.lt_or_le k 0 with hk | hk
  · exfalso
    have : szState c.s k < 0 := by
      unfold szState szB
      have : szr k c.s.regs.length < 0 := by unfold szr; split <;> omega
      rw [if_pos this]; decide
    omega
  · have := szState_bnd c.s hk
    exact ⟨h5, by omega, by omega⟩
theorem szDesk_n {d : Desk} {k : Int} (h0 : 0 ≤ k) (h1 : k ≤ 1048576) (h : 0 ≤ szDesk d k) : LDesk d 1048576 := by
  obtain ⟨h2, h3, _⟩ := szB_pos h
  obtain ⟨h4, h5, _⟩ := szB_pos h3
  have h6 := szr_n h2
  have h7 := szCore_n (by omega) h4
  have h8 := szCore_bnd d.c h2
  have h9 := szr_n h5
  exact ⟨by omega, h7, by omega⟩
theorem lCore_of {t : Core} (h : WCore t) : LCore t 9223372036854775807 := ⟨lState_of h.1, h.2.1.2, h.2.2.2.2⟩
theorem lDesk_of {t : Desk} (h : WDesk t) : LDesk t 9223372036854775807 := ⟨h.1.2, lCore_of h.2.1, h.2.2.2⟩

def pf_w_szCore : PF := ⟨[.t 4], .r [.box 2 0, .mv 4 (.i 0)] (.r [.f 5 2 0, .L 6 10 5, .m 7 1, .c 8 37 [6, 7], .m 1 8] (.seq (.r [.m 9 1, .bin 10 .lss 9 (.i 0)] (.cond 10 (.r [.mv 4 (.i (-1))] .ret) .skip)) (.r [.f 11 2 10, .l 12 1 11, .m 13 1, .c 14 38 [12, 13], .m 1 14] (.seq (.r [.m 15 1, .bin 16 .lss 15 (.i 0)] (.cond 16 (.r [.mv 4 (.i (-1))] .ret) .skip)) (.r [.f 17 2 18, .l 18 1 17, .m 19 1, .c 20 13 [18, 19], .m 1 20] (.seq (.r [.m 21 1, .bin 22 .lss 21 (.i 0)] (.cond 22 (.r [.mv 4 (.i (-1))] .ret) .skip)) (.r [.m 23 1, .m 4 23] .ret)))))))⟩
def c_w_szCore : Fun := ⟨12, [], fun ts K => as2 ts fun t0 t1 => arG pCoreT t0 fun m => arC (pI .i64) t1 fun k => chk (LCore m 9223372036854775807 ∧ 0 ≤ k ∧ k ≤ 1048576) (K (tN (szCore m k)) [])⟩
theorem run_w_szCore (m : Core) (k : Int) (hpre : LCore m 9223372036854775807 ∧ 0 ≤ k ∧ k ≤ 1048576) : runK [c_w_szIntS, c_w_szState, c_w_szEntryS] (0) [] pf_w_szCore [tG (m.tc false []), tI .i64 k] fun r o => r = tN (szCore m k) ∧ o = [] := by
  obtain ⟨⟨l1, l2, l3⟩, hk, hk2⟩ := hpre
  have a1 := szState_bnd m.s hk
  have a2 : 0 ≤ szState m.s k → _ := fun q => szr_bnd m.rob.length q
  have a3 : 0 ≤ szr (szState m.s k) m.rob.length → _ := fun q => szr_bnd m.guesses.length q
  have e1 : szState m.s k < 0 → szCore m k = -1 := fun q => if_pos q
  have e2 : ¬ szState m.s k < 0 → szr (szState m.s k) m.rob.length < 0 → szCore m k = -1 := fun q q2 => (if_neg q).trans (if_pos q2)
  have e3 : ¬ szState m.s k < 0 → ¬ szr (szState m.s k) m.rob.length < 0 → szCore m k = szr (szr (szState m.s k) m.rob.length) m.guesses.length := fun q q2 => (if_neg q).trans (if_neg q2)
  conv => whnf
  repeat' (first | ((first | refine sel_i (fun h => ?_) (fun h => ?_) | refine chk_c ?_ ?_) <;> conv => whnf) | refine And.intro ?_ rfl | (refine And.intro ?_ ?_ <;> conv => whnf))
  all_goals (try simp only [etaKey, etaWord, etaMemory, etaState, decide_eq_true_eq, decide_eq_false_iff_not] at *)
  all_goals first
    | (refine ⟨?_⟩; exact ⟨by assumption, by omega, by omega⟩)
    | (rw [e1 (by assumption)]; done)
    | (rw [e2 (by assumption) (by assumption)]; done)
    | (rw [e3 (by assumption) (by assumption)]; done)
    | (rw [e3 (by assumption) (by assumption), show szr (szr (szState m.s k) m.rob.length) m.guesses.length = -1 by omega]; done)
    | trace_state
theorem ok_w_szCore : FunOk Tryz.prog c_w_szCore := funOk (eK ok_w_szIntS (eK ok_w_szState (eK ok_w_szEntryS eN))) mixd Tryz.func12 (pf := pf_w_szCore) (by kernel_rfl) fun ts K h => by
  obtain ⟨t0, t1, rfl, q0⟩ := as2_out h
  obtain ⟨m, rfl, q1⟩ := arG_out rd_core q0
  obtain ⟨k, rfl, q2⟩ := arC_out (rd_int .i64) q1
  obtain ⟨hpre, hk⟩ := chk_o q2
  exact ⟨_, _, hk, nb 2 Tryz.f12 (by kernel_rfl), _, run_w_szCore m k hpre⟩

def pf_w_szDesk : PF := ⟨[.t 4], .r [.box 2 0, .mv 4 (.i 0)] (.r [.f 5 2 0, .l 6 1 5, .m 7 1, .c 8 11 [6, 7], .m 1 8] (.seq (.r [.m 9 1, .bin 10 .lss 9 (.i 0)] (.cond 10 (.r [.mv 4 (.i (-1))] .ret) .skip)) (.r [.f 11 2 1, .L 12 19 11, .m 13 1, .c 14 12 [12, 13], .m 1 14] (.seq (.r [.m 15 1, .bin 16 .lss 15 (.i 0)] (.cond 16 (.r [.mv 4 (.i (-1))] .ret) .skip)) (.r [.f 17 2 20, .l 18 1 17, .m 19 1, .c 20 13 [18, 19], .m 1 20] (.seq (.r [.m 21 1, .bin 22 .lss 21 (.i 0)] (.cond 22 (.r [.mv 4 (.i (-1))] .ret) .skip)) (.r [.m 23 1, .m 4 23] .ret)))))))⟩
def c_w_szDesk : Fun := ⟨4, [], fun ts K => as2 ts fun t0 t1 => arG pDeskT t0 fun m => arC (pI .i64) t1 fun k => chk (LDesk m 9223372036854775807 ∧ 0 ≤ k ∧ k ≤ 1048576) (K (tN (szDesk m k)) [])⟩
theorem run_w_szDesk (m : Desk) (k : Int) (hpre : LDesk m 9223372036854775807 ∧ 0 ≤ k ∧ k ≤ 1048576) : runK [c_w_szInsS, c_w_szCore, c_w_szIntS] (0) [] pf_w_szDesk [tG (m.tc false []), tI .i64 k] fun r o => r = tN (szDesk m k) ∧ o = [] := by
  obtain ⟨⟨l1, l2, l3⟩, hk, hk2⟩ := hpre
  have a1 := szr_bnd m.list.length hk
  have a2 : 0 ≤ szr k m.list.length → _ := fun q => szCore_bnd m.c q
  have a3 : 0 ≤ szCore m.c (szr k m.list.length) → _ := fun q => szr_bnd m.order.length q
  have e1 : szr k m.list.length < 0 → szDesk m k = -1 := fun q => if_pos q
  have e2 : ¬ szr k m.list.length < 0 → szCore m.c (szr k m.list.length) < 0 → szDesk m k = -1 := fun q q2 => (if_neg q).trans (if_pos q2)
  have e3 : ¬ szr k m.list.length < 0 → ¬ szCore m.c (szr k m.list.length) < 0 → szDesk m k = szr (szCore m.c (szr k m.list.length)) m.order.length := fun q q2 => (if_neg q).trans (if_neg q2)
  conv => whnf
  repeat' (first | ((first | refine sel_i (fun h => ?_) (fun h => ?_) | refine chk_c ?_ ?_) <;> conv => whnf) | refine And.intro ?_ rfl | (refine And.intro ?_ ?_ <;> conv => whnf))
  all_goals (try simp only [etaKey, etaWord, etaMemory, etaState, etaCore, decide_eq_true_eq, decide_eq_false_iff_not] at *)
  all_goals first
    | (refine ⟨?_⟩; exact ⟨by assumption, by omega, by omega⟩)
    | (rw [e1 (by assumption)]; done)
    | (rw [e2 (by assumption) (by assumption)]; done)
    | (rw [e3 (by assumption) (by assumption)]; done)
    | (rw [e3 (by assumption) (by assumption), show szr (szCore m.c (szr k m.list.length)) m.order.length = -1 by omega]; done)
    | trace_state
theorem ok_w_szDesk : FunOk Tryz.prog c_w_szDesk := funOk (eK ok_w_szInsS (eK ok_w_szCore (eK ok_w_szIntS eN))) mixd Tryz.func4 (pf := pf_w_szDesk) (by kernel_rfl) fun ts K h => by
  obtain ⟨t0, t1, rfl, q0⟩ := as2_out h
  obtain ⟨m, rfl, q1⟩ := arG_out rd_desk q0
  obtain ⟨k, rfl, q2⟩ := arC_out (rd_int .i64) q1
  obtain ⟨hpre, hk⟩ := chk_o q2
  exact ⟨_, _, hk, nb 2 Tryz.f4 (by kernel_rfl), _, run_w_szDesk m k hpre⟩

def pf_w_toCore : PF := ⟨[.c 2 true 19], .r [.box 1 0, .alloc 2 zcC] (.r [.alloc 3 zcC] (.r [.f 4 1 0, .L 5 10 4, .c 6 55 [5], .f 7 3 0, .o 10 7 6] (.r [.f 8 1 10, .l 9 1 8, .c 10 56 [9], .f 11 3 10, .o 1 11 10] (.r [.f 12 1 11, .L 13 6 12, .c 14 57 [13], .f 15 3 11, .o 6 15 14] (.r [.f 16 1 17, .l 17 1 16, .f 18 3 17, .o 1 18 17] (.r [.f 19 1 18, .l 20 1 19, .c 21 24 [20], .f 22 3 18, .o 1 22 21] (.r [.L 23 19 3, .o 19 2 23] .ret)))))))⟩
def c_w_toCore : Fun := ⟨23, [], fun ts K => as1 ts fun t0 => arG pCoreT t0 fun m => chk (LCore m 2147483647) (K (tG (m.tc true [])) [])⟩
theorem run_w_toCore (m : Core) (hpre : LCore m 2147483647) : runK [c_w_toIntS, c_w_toState, c_w_toEntryS, c_w_toWord] (0) [] pf_w_toCore [tG (m.tc false [])] fun r o => r = tG (m.tc true []) ∧ o = [] := by
  obtain ⟨l1, l2, l3⟩ := hpre
  conv => whnf
  repeat' (first | (refine chk_c ?_ ?_ <;> conv => whnf) | (refine And.intro ?_ ?_ <;> conv => whnf))
  all_goals first
    | (refine ⟨?_⟩; assumption)
    | trivial
    | rfl
    | trace_state
theorem ok_w_toCore : FunOk Tryz.prog c_w_toCore := funOk (eK ok_w_toIntS (eK ok_w_toState (eK ok_w_toEntryS (eK ok_w_toWord eN)))) mixd Tryz.func23 (pf := pf_w_toCore) (by kernel_rfl) fun ts K h => by
  obtain ⟨t0, rfl, q0⟩ := as1_out h
  obtain ⟨m, rfl, q1⟩ := arG_out rd_core q0
  obtain ⟨hpre, hk⟩ := chk_o q1
  exact ⟨_, _, hk, nb 1 Tryz.f23 (by kernel_rfl), _, run_w_toCore m hpre⟩

def pf_w_toDesk : PF := ⟨[.c 2 true 21], .r [.box 1 0, .alloc 2 zcD] (.r [.alloc 3 zcD] (.r [.f 4 1 0, .l 5 1 4, .c 6 22 [5], .f 7 3 0, .o 1 7 6] (.r [.f 8 1 1, .L 9 19 8, .c 10 23 [9], .f 11 3 1, .o 19 11 10] (.r [.f 12 1 20, .l 13 1 12, .c 14 24 [13], .f 15 3 20, .o 1 15 14] (.r [.L 16 21 3, .o 21 2 16] .ret)))))⟩
def c_w_toDesk : Fun := ⟨6, [], fun ts K => as1 ts fun t0 => arG pDeskT t0 fun m => chk (LDesk m 2147483647) (K (tG (m.tc true [])) [])⟩
theorem run_w_toDesk (m : Desk) (hpre : LDesk m 2147483647) : runK [c_w_toInsS, c_w_toCore, c_w_toIntS] (0) [] pf_w_toDesk [tG (m.tc false [])] fun r o => r = tG (m.tc true []) ∧ o = [] := by
  obtain ⟨l1, l2, l3⟩ := hpre
  conv => whnf
  repeat' (first | (refine chk_c ?_ ?_ <;> conv => whnf) | (refine And.intro ?_ ?_ <;> conv => whnf))
  all_goals first
    | (refine ⟨?_⟩; assumption)
    | trivial
    | rfl
    | trace_state
theorem ok_w_toDesk : FunOk Tryz.prog c_w_toDesk := funOk (eK ok_w_toInsS (eK ok_w_toCore (eK ok_w_toIntS eN))) mixd Tryz.func6 (pf := pf_w_toDesk) (by kernel_rfl) fun ts K h => by
  obtain ⟨t0, rfl, q0⟩ := as1_out h
  obtain ⟨m, rfl, q1⟩ := arG_out rd_desk q0
  obtain ⟨hpre, hk⟩ := chk_o q1
  exact ⟨_, _, hk, nb 1 Tryz.f6 (by kernel_rfl), _, run_w_toDesk m hpre⟩

def pf_w_eqCore : PF := ⟨[.t 4], .r [.box 2 0, .box 3 1, .mv 4 .F] (.seq (.r [.f 5 2 0, .L 6 10 5, .f 7 3 0, .L 8 10 7, .c 9 78 [6, 8], .bnot 10 9] (.cond 10 (.r [.mv 4 .F] .ret) .skip)) (.seq (.r [.f 11 2 10, .l 12 1 11, .f 13 3 10, .l 14 1 13, .c 15 79 [12, 14], .bnot 16 15] (.cond 16 (.r [.mv 4 .F] .ret) .skip)) (.seq (.r [.f 17 2 11, .L 18 6 17, .f 19 3 11, .L 20 6 19, .c 21 80 [18, 20], .bnot 22 21] (.cond 22 (.r [.mv 4 .F] .ret) .skip)) (.seq (.r [.f 23 2 17, .l 24 1 23, .f 25 3 17, .l 26 1 25, .eqs 27 false [.b] true 24 26] (.cond 27 (.r [.mv 4 .F] .ret) .skip)) (.seq (.r [.f 28 2 18, .l 29 1 28, .f 30 3 18, .l 31 1 30, .c 32 30 [29, 31], .bnot 33 32] (.cond 33 (.r [.mv 4 .F] .ret) .skip)) (.r [.mv 4 .T] .ret))))))⟩
def c_w_eqCore : Fun := ⟨29, [], fun ts K => as2 ts fun t0 t1 => arG pCoreT t0 fun a => arG pCoreT t1 fun b => chk (LCore a 2147483647) (K (tB (decide (a = b))) [])⟩
theorem run_w_eqCore (a : Core) (b : Core) (hpre : LCore a 2147483647) : runK [c_w_eqIntS, c_w_eqState, c_w_eqEntryS, c_w_eqWord] (0) [] pf_w_eqCore [tG (a.tc false []), tG (b.tc false [])] fun r o => r = tB (decide (a = b)) ∧ o = [] := by
  obtain ⟨l1, l2, l3⟩ := hpre
  have key : (decide (a = b)) = (decide (a.s = b.s) && (decide (a.rob = b.rob) && (decide (a.next = b.next) && ((a.stop == b.stop) && decide (a.guesses = b.guesses))))) := by
    obtain ⟨p, x, d, e, g⟩ := a
    obtain ⟨p', x', d', e', g'⟩ := b
    rw [Bool.eq_iff_iff]
    simp only [decide_eq_true_eq, Bool.and_eq_true, beq_iff_eq, Core.mk.injEq]
  rw [key]
  conv => whnf
  repeat' (first | ((first | refine sel_i (fun h => ?_) (fun h => ?_) | refine chk_c ?_ ?_) <;> conv => whnf) | refine And.intro ?_ rfl | (refine And.intro ?_ ?_ <;> conv => whnf))
  all_goals (try simp only [etaKey, etaWord, etaMemory, etaState, etaCore, Bool.not_eq_true', Bool.not_eq_false', bne_iff_ne, ne_eq, bne_eq_false_iff_eq] at *)
  all_goals first
    | (refine ⟨?_⟩; assumption)
    | (simp only [*, Bool.true_and, Bool.false_and, Bool.and_true, Bool.and_false]; done)
    | (simp [*]; done)
    | trace_state
theorem ok_w_eqCore : FunOk Tryz.prog c_w_eqCore := funOk (eK ok_w_eqIntS (eK ok_w_eqState (eK ok_w_eqEntryS (eK ok_w_eqWord eN)))) mixd Tryz.func29 (pf := pf_w_eqCore) (by kernel_rfl) fun ts K h => by
  obtain ⟨t0, t1, rfl, q0⟩ := as2_out h
  obtain ⟨a, rfl, q1⟩ := arG_out rd_core q0
  obtain ⟨b, rfl, q2⟩ := arG_out rd_core q1
  obtain ⟨hpre, hk⟩ := chk_o q2
  exact ⟨_, _, hk, nb 2 Tryz.f29 (by kernel_rfl), _, run_w_eqCore a b hpre⟩

def pf_w_eqDesk : PF := ⟨[.t 4], .r [.box 2 0, .box 3 1, .mv 4 .F] (.seq (.r [.f 5 2 0, .l 6 1 5, .f 7 3 0, .l 8 1 7, .c 9 28 [6, 8], .bnot 10 9] (.cond 10 (.r [.mv 4 .F] .ret) .skip)) (.seq (.r [.f 11 2 1, .L 12 19 11, .f 13 3 1, .L 14 19 13, .c 15 29 [12, 14], .bnot 16 15] (.cond 16 (.r [.mv 4 .F] .ret) .skip)) (.seq (.r [.f 17 2 20, .l 18 1 17, .f 19 3 20, .l 20 1 19, .c 21 30 [18, 20], .bnot 22 21] (.cond 22 (.r [.mv 4 .F] .ret) .skip)) (.r [.mv 4 .T] .ret))))⟩
def c_w_eqDesk : Fun := ⟨8, [], fun ts K => as2 ts fun t0 t1 => arG pDeskT t0 fun a => arG pDeskT t1 fun b => chk (LDesk a 2147483647) (K (tB (decide (a = b))) [])⟩
theorem run_w_eqDesk (a : Desk) (b : Desk) (hpre : LDesk a 2147483647) : runK [c_w_eqInsS, c_w_eqCore, c_w_eqIntS] (0) [] pf_w_eqDesk [tG (a.tc false []), tG (b.tc false [])] fun r o => r = tB (decide (a = b)) ∧ o = [] := by
  obtain ⟨l1, l2, l3⟩ := hpre
  have key : (decide (a = b)) = (decide (a.list = b.list) && (decide (a.c = b.c) && decide (a.order = b.order))) := by
    obtain ⟨p, x, d⟩ := a
    obtain ⟨p', x', d'⟩ := b
    rw [Bool.eq_iff_iff]
    simp only [decide_eq_true_eq, Bool.and_eq_true, Desk.mk.injEq]
  rw [key]
  conv => whnf
  repeat' (first | ((first | refine sel_i (fun h => ?_) (fun h => ?_) | refine chk_c ?_ ?_) <;> conv => whnf) | refine And.intro ?_ rfl | (refine And.intro ?_ ?_ <;> conv => whnf))
  all_goals (try simp only [etaKey, etaWord, etaMemory, etaState, etaCore, Bool.not_eq_true', Bool.not_eq_false', bne_iff_ne, ne_eq, bne_eq_false_iff_eq] at *)
  all_goals first
    | (refine ⟨?_⟩; assumption)
    | (simp only [*, Bool.true_and, Bool.false_and, Bool.and_true, Bool.and_false]; done)
    | (simp [*]; done)
    | trace_state
theorem ok_w_eqDesk : FunOk Tryz.prog c_w_eqDesk := funOk (eK ok_w_eqInsS (eK ok_w_eqCore (eK ok_w_eqIntS eN))) mixd Tryz.func8 (pf := pf_w_eqDesk) (by kernel_rfl) fun ts K h => by
  obtain ⟨t0, t1, rfl, q0⟩ := as2_out h
  obtain ⟨a, rfl, q1⟩ := arG_out rd_desk q0
  obtain ⟨b, rfl, q2⟩ := arG_out rd_desk q1
  obtain ⟨hpre, hk⟩ := chk_o q2
  exact ⟨_, _, hk, nb 2 Tryz.f8 (by kernel_rfl), _, run_w_eqDesk a b hpre⟩

def endCore (m : Core) (k : Int) : Int := endState m.s (k) + 40 * m.rob.length + 1 * m.guesses.length
def markCore (m : Core) (k : Int) : Core := { m with s := markState m.s (k), rob := mkEntryS m.rob.length (endState m.s (k)), guesses := mkIntS m.guesses.length (endState m.s (k) + 40 * m.rob.length) }
def SzCore (m : Core) : Prop := SzState m.s ∧ m.rob.length ≤ 2147483647 ∧ m.guesses.length ≤ 2147483647
def pf_w_markCore : PF := ⟨[.t 4], .r [.box 2 0, .mv 4 (.i 0)] (.r [.f 5 2 0, .L 6 10 5, .m 7 1, .c 8 81 [6, 7], .m 1 8] (.r [.f 9 2 10, .l 10 1 9, .m 11 1, .c 12 82 [10, 11], .m 1 12] (.r [.f 13 2 18, .l 14 1 13, .m 15 1, .c 16 33 [14, 15], .m 1 16] (.r [.m 17 1, .m 4 17] .ret))))⟩
def c_w_markCore : Fun := ⟨32, [true, false], fun ts K => as2 ts fun t0 t1 => arG pCoreO t0 fun m => arC (pI .i64) t1 fun k => chk (0 ≤ k ∧ k ≤ 140737488355328 ∧ SzCore m) (K (tN (endCore m k)) ([tG ((markCore m k).tc true [])]))⟩
theorem run_w_markCore (m : Core) (k : Int) (hpre : 0 ≤ k ∧ k ≤ 140737488355328 ∧ SzCore m) : runK [c_w_markIntS, c_w_markState, c_w_markEntryS] (0) [true, false] pf_w_markCore [tG (m.tc true []), tI .i64 k] fun r o => r = tN (endCore m k) ∧ o = [tG ((markCore m k).tc true [])] := by
  conv => whnf
  repeat' (refine chk_c ?_ ?_ <;> conv => whnf)
  all_goals first
    | (refine ⟨?_⟩; (try dsimp only); simp only [SzCore, endCore, markCore, SzState, endState, markState, SzMemory, endMemory, markMemory] at *; omega)
    | (refine ⟨?_⟩; (try dsimp only); simp only [SzCore, endCore, markCore, SzState, endState, markState, SzMemory, endMemory, markMemory, mkEntryS_length, mkIntS_length, mkWordS_length, mkBoolS_length] at *; omega)
    | (refine ⟨?_⟩; (try dsimp only); simp [SzCore, endCore, markCore, SzState, endState, markState, SzMemory, endMemory, markMemory, mkEntryS_length, mkIntS_length, mkWordS_length, mkBoolS_length]; done)
    | exact ⟨rfl, rfl⟩
theorem ok_w_markCore : FunOk Tryz.prog c_w_markCore := funOk (eK ok_w_markIntS (eK ok_w_markState (eK ok_w_markEntryS eN))) mixd Tryz.func32 (pf := pf_w_markCore) (by kernel_rfl) fun ts K h => by
  obtain ⟨t0, t1, rfl, q0⟩ := as2_out h
  obtain ⟨m, rfl, q1⟩ := arG_out rd_coreO q0
  obtain ⟨k, rfl, q2⟩ := arC_out (rd_int .i64) q1
  obtain ⟨hpre, hk⟩ := chk_o q2
  exact ⟨_, _, hk, nb 2 Tryz.f32 (by kernel_rfl), _, run_w_markCore m k hpre⟩

def pf_w_heldCore : PF := ⟨[.t 4], .r [.box 2 0, .mv 4 (.i 0)] (.r [.f 5 2 0, .L 6 10 5, .m 7 1, .c 8 83 [6, 7], .m 1 8] (.seq (.r [.m 9 1, .bin 10 .lss 9 (.i 0)] (.cond 10 (.r [.mv 4 (.i (-1))] .ret) .skip)) (.r [.f 11 2 10, .l 12 1 11, .m 13 1, .c 14 84 [12, 13], .m 1 14] (.seq (.r [.m 15 1, .bin 16 .lss 15 (.i 0)] (.cond 16 (.r [.mv 4 (.i (-1))] .ret) .skip)) (.r [.f 17 2 18, .l 18 1 17, .m 19 1, .c 20 36 [18, 19], .m 1 20] (.seq (.r [.m 21 1, .bin 22 .lss 21 (.i 0)] (.cond 22 (.r [.mv 4 (.i (-1))] .ret) .skip)) (.r [.m 23 1, .m 4 23] .ret)))))))⟩
def c_w_heldCore : Fun := ⟨35, [], fun ts K => as2 ts fun t0 t1 => arG pCoreT t0 fun m => arC (pI .i64) t1 fun k => chk (0 ≤ k ∧ k ≤ 140737488355328 ∧ SzCore m) (K (tN (hres (m = markCore m k) (endCore m k))) [])⟩
theorem run_w_heldCore (m : Core) (k : Int) (hpre : 0 ≤ k ∧ k ≤ 140737488355328 ∧ SzCore m) : runK [c_w_heldIntS, c_w_heldState, c_w_heldEntryS] (0) [] pf_w_heldCore [tG (m.tc false []), tI .i64 k] fun r o => r = tN (hres (m = markCore m k) (endCore m k)) ∧ o = [] := by
  have hsz := hpre.2.2
  conv => whnf
  refine chk_i (by (try dsimp only); simp only [SzCore, endCore, markCore, SzState, endState, markState, SzMemory, endMemory, markMemory] at *; omega) ?_
  conv => whnf
  refine sel_i (fun h => ?_) (fun h => ?_)
  · have hn := hres_t (by (try dsimp only); simp only [SzCore, endCore, markCore, SzState, endState, markState, SzMemory, endMemory, markMemory] at *; omega) h
    conv => whnf
    refine ⟨?_, rfl⟩
    rw [hres_no (fun e => hn (congrArg Core.s e))]
  obtain ⟨p0, e0⟩ := hres_f h
  conv => whnf
  simp only [e0]
  refine chk_i (by (try dsimp only); simp only [SzCore, endCore, markCore, SzState, endState, markState, SzMemory, endMemory, markMemory] at *; omega) ?_
  conv => whnf
  refine sel_i (fun h => ?_) (fun h => ?_)
  · have hn := hres_t (by (try dsimp only); simp only [SzCore, endCore, markCore, SzState, endState, markState, SzMemory, endMemory, markMemory] at *; omega) h
    conv => whnf
    refine ⟨?_, rfl⟩
    rw [hres_no (fun e => hn (congrArg Core.rob e))]
  obtain ⟨p1, e1⟩ := hres_f h
  conv => whnf
  simp only [e1]
  refine chk_i (by (try dsimp only); simp only [SzCore, endCore, markCore, SzState, endState, markState, SzMemory, endMemory, markMemory] at *; omega) ?_
  conv => whnf
  refine sel_i (fun h => ?_) (fun h => ?_)
  · have hn := hres_t (by (try dsimp only); simp only [SzCore, endCore, markCore, SzState, endState, markState, SzMemory, endMemory, markMemory] at *; omega) h
    conv => whnf
    refine ⟨?_, rfl⟩
    rw [hres_no (fun e => hn (congrArg Core.guesses e))]
  obtain ⟨p2, e2⟩ := hres_f h
  conv => whnf
  refine ⟨?_, rfl⟩
  rw [hres_yes (show m = markCore m k from ?_)]
  · exact congrArg (fun x => tN x) e2
  · obtain ⟨m0, m1, m2, m3, m4⟩ := m
    simp only [markCore, Core.mk.injEq, eq_self, and_true, true_and]
    exact ⟨p0, p1, p2⟩
theorem ok_w_heldCore : FunOk Tryz.prog c_w_heldCore := funOk (eK ok_w_heldIntS (eK ok_w_heldState (eK ok_w_heldEntryS eN))) mixd Tryz.func35 (pf := pf_w_heldCore) (by kernel_rfl) fun ts K h => by
  obtain ⟨t0, t1, rfl, q0⟩ := as2_out h
  obtain ⟨m, rfl, q1⟩ := arG_out rd_core q0
  obtain ⟨k, rfl, q2⟩ := arC_out (rd_int .i64) q1
  obtain ⟨hpre, hk⟩ := chk_o q2
  exact ⟨_, _, hk, nb 2 Tryz.f35 (by kernel_rfl), _, run_w_heldCore m k hpre⟩

def endDesk (m : Desk) (k : Int) : Int := endCore m.c (k + 5 * m.list.length) + 1 * m.order.length
def markDesk (m : Desk) (k : Int) : Desk := { m with list := mkInsS m.list.length (k), c := markCore m.c (k + 5 * m.list.length), order := mkIntS m.order.length (endCore m.c (k + 5 * m.list.length)) }
def SzDesk (m : Desk) : Prop := m.list.length ≤ 2147483647 ∧ SzCore m.c ∧ m.order.length ≤ 2147483647
theorem sz_markDesk (m : Desk) (k : Int) (h : SzDesk m) : SzDesk (markDesk m k) := by
  simp only [SzDesk, endDesk, markDesk, SzCore, endCore, markCore, SzState, endState, markState, SzMemory, endMemory, markMemory, mkInsS_length, mkIntS_length, mkEntryS_length, mkWordS_length, mkBoolS_length] at h ⊢; omega
theorem endDesk_le (m : Desk) (k : Int) (h : SzDesk m) : k ≤ endDesk m k ∧ endDesk m k ≤ k + 1099511627776 := by
  simp only [SzDesk, endDesk, markDesk, SzCore, endCore, markCore, SzState, endState, markState, SzMemory, endMemory, markMemory] at h ⊢; omega
theorem mark_markDesk (m : Desk) (k : Int) : markDesk (markDesk m k) k = markDesk m k := by
  simp [SzDesk, endDesk, markDesk, SzCore, endCore, markCore, SzState, endState, markState, SzMemory, endMemory, markMemory, mkInsS_length, mkIntS_length, mkEntryS_length, mkWordS_length, mkBoolS_length]
theorem end_markDesk (m : Desk) (k : Int) : endDesk (markDesk m k) k = endDesk m k := by
  simp [SzDesk, endDesk, markDesk, SzCore, endCore, markCore, SzState, endState, markState, SzMemory, endMemory, markMemory, mkInsS_length, mkIntS_length, mkEntryS_length, mkWordS_length, mkBoolS_length]
theorem etaDesk (m : Desk) : (⟨m.list, m.c, m.order⟩ : Desk) = m := rfl

def pf_w_markDesk : PF := ⟨[.t 4], .r [.box 2 0, .mv 4 (.i 0)] (.r [.f 5 2 0, .l 6 1 5, .m 7 1, .c 8 31 [6, 7], .m 1 8] (.r [.f 9 2 1, .L 10 19 9, .m 11 1, .c 12 32 [10, 11], .m 1 12] (.r [.f 13 2 20, .l 14 1 13, .m 15 1, .c 16 33 [14, 15], .m 1 16] (.r [.m 17 1, .m 4 17] .ret))))⟩
def c_w_markDesk : Fun := ⟨9, [true, false], fun ts K => as2 ts fun t0 t1 => arG pDeskO t0 fun m => arC (pI .i64) t1 fun k => chk (0 ≤ k ∧ k ≤ 70368744177664 ∧ SzDesk m) (K (tN (endDesk m k)) ([tG ((markDesk m k).tc true [])]))⟩
theorem run_w_markDesk (m : Desk) (k : Int) (hpre : 0 ≤ k ∧ k ≤ 70368744177664 ∧ SzDesk m) : runK [c_w_markInsS, c_w_markCore, c_w_markIntS] (0) [true, false] pf_w_markDesk [tG (m.tc true []), tI .i64 k] fun r o => r = tN (endDesk m k) ∧ o = [tG ((markDesk m k).tc true [])] := by
  conv => whnf
  repeat' (refine chk_c ?_ ?_ <;> conv => whnf)
  all_goals first
    | (refine ⟨?_⟩; (try dsimp only); simp only [SzDesk, endDesk, markDesk, SzCore, endCore, markCore, SzState, endState, markState, SzMemory, endMemory, markMemory] at *; omega)
    | (refine ⟨?_⟩; (try dsimp only); simp only [SzDesk, endDesk, markDesk, SzCore, endCore, markCore, SzState, endState, markState, SzMemory, endMemory, markMemory, mkInsS_length, mkIntS_length, mkEntryS_length, mkWordS_length, mkBoolS_length] at *; omega)
    | (refine ⟨?_⟩; (try dsimp only); simp [SzDesk, endDesk, markDesk, SzCore, endCore, markCore, SzState, endState, markState, SzMemory, endMemory, markMemory, mkInsS_length, mkIntS_length, mkEntryS_length, mkWordS_length, mkBoolS_length]; done)
    | exact ⟨rfl, rfl⟩
theorem ok_w_markDesk : FunOk Tryz.prog c_w_markDesk := funOk (eK ok_w_markInsS (eK ok_w_markCore (eK ok_w_markIntS eN))) mixd Tryz.func9 (pf := pf_w_markDesk) (by kernel_rfl) fun ts K h => by
  obtain ⟨t0, t1, rfl, q0⟩ := as2_out h
  obtain ⟨m, rfl, q1⟩ := arG_out rd_deskO q0
  obtain ⟨k, rfl, q2⟩ := arC_out (rd_int .i64) q1
  obtain ⟨hpre, hk⟩ := chk_o q2
  exact ⟨_, _, hk, nb 2 Tryz.f9 (by kernel_rfl), _, run_w_markDesk m k hpre⟩

def pf_w_heldDesk : PF := ⟨[.t 4], .r [.box 2 0, .mv 4 (.i 0)] (.r [.f 5 2 0, .l 6 1 5, .m 7 1, .c 8 34 [6, 7], .m 1 8] (.seq (.r [.m 9 1, .bin 10 .lss 9 (.i 0)] (.cond 10 (.r [.mv 4 (.i (-1))] .ret) .skip)) (.r [.f 11 2 1, .L 12 19 11, .m 13 1, .c 14 35 [12, 13], .m 1 14] (.seq (.r [.m 15 1, .bin 16 .lss 15 (.i 0)] (.cond 16 (.r [.mv 4 (.i (-1))] .ret) .skip)) (.r [.f 17 2 20, .l 18 1 17, .m 19 1, .c 20 36 [18, 19], .m 1 20] (.seq (.r [.m 21 1, .bin 22 .lss 21 (.i 0)] (.cond 22 (.r [.mv 4 (.i (-1))] .ret) .skip)) (.r [.m 23 1, .m 4 23] .ret)))))))⟩
def c_w_heldDesk : Fun := ⟨10, [], fun ts K => as2 ts fun t0 t1 => arG pDeskT t0 fun m => arC (pI .i64) t1 fun k => chk (0 ≤ k ∧ k ≤ 70368744177664 ∧ SzDesk m) (K (tN (hres (m = markDesk m k) (endDesk m k))) [])⟩
theorem run_w_heldDesk (m : Desk) (k : Int) (hpre : 0 ≤ k ∧ k ≤ 70368744177664 ∧ SzDesk m) : runK [c_w_heldInsS, c_w_heldCore, c_w_heldIntS] (0) [] pf_w_heldDesk [tG (m.tc false []), tI .i64 k] fun r o => r = tN (hres (m = markDesk m k) (endDesk m k)) ∧ o = [] := by
  have hsz := hpre.2.2
  conv => whnf
  refine chk_i (by (try dsimp only); simp only [SzDesk, endDesk, markDesk, SzCore, endCore, markCore, SzState, endState, markState, SzMemory, endMemory, markMemory] at *; omega) ?_
  conv => whnf
  refine sel_i (fun h => ?_) (fun h => ?_)
  · have hn := hres_t (by (try dsimp only); simp only [SzDesk, endDesk, markDesk, SzCore, endCore, markCore, SzState, endState, markState, SzMemory, endMemory, markMemory] at *; omega) h
    conv => whnf
    refine ⟨?_, rfl⟩
    rw [hres_no (fun e => hn (congrArg Desk.list e))]
  obtain ⟨p0, e0⟩ := hres_f h
  conv => whnf
  simp only [e0]
  refine chk_i (by (try dsimp only); simp only [SzDesk, endDesk, markDesk, SzCore, endCore, markCore, SzState, endState, markState, SzMemory, endMemory, markMemory] at *; omega) ?_
  conv => whnf
  refine sel_i (fun h => ?_) (fun h => ?_)
  · have hn := hres_t (by (try dsimp only); simp only [SzDesk, endDesk, markDesk, SzCore, endCore, markCore, SzState, endState, markState, SzMemory, endMemory, markMemory] at *; omega) h
    conv => whnf
    refine ⟨?_, rfl⟩
    rw [hres_no (fun e => hn (congrArg Desk.c e))]
  obtain ⟨p1, e1⟩ := hres_f h
  conv => whnf
  simp only [e1]
  refine chk_i (by (try dsimp only); simp only [SzDesk, endDesk, markDesk, SzCore, endCore, markCore, SzState, endState, markState, SzMemory, endMemory, markMemory] at *; omega) ?_
  conv => whnf
  refine sel_i (fun h => ?_) (fun h => ?_)
  · have hn := hres_t (by (try dsimp only); simp only [SzDesk, endDesk, markDesk, SzCore, endCore, markCore, SzState, endState, markState, SzMemory, endMemory, markMemory] at *; omega) h
    conv => whnf
    refine ⟨?_, rfl⟩
    rw [hres_no (fun e => hn (congrArg Desk.order e))]
  obtain ⟨p2, e2⟩ := hres_f h
  conv => whnf
  refine ⟨?_, rfl⟩
  rw [hres_yes (show m = markDesk m k from ?_)]
  · exact congrArg (fun x => tN x) e2
  · obtain ⟨m0, m1, m2⟩ := m
    simp only [markDesk, Desk.mk.injEq, eq_self, and_true, true_and]
    exact ⟨p0, p1, p2⟩
theorem ok_w_heldDesk : FunOk Tryz.prog c_w_heldDesk := funOk (eK ok_w_heldInsS (eK ok_w_heldCore (eK ok_w_heldIntS eN))) mixd Tryz.func10 (pf := pf_w_heldDesk) (by kernel_rfl) fun ts K h => by
  obtain ⟨t0, t1, rfl, q0⟩ := as2_out h
  obtain ⟨m, rfl, q1⟩ := arG_out rd_desk q0
  obtain ⟨k, rfl, q2⟩ := arC_out (rd_int .i64) q1
  obtain ⟨hpre, hk⟩ := chk_o q2
  exact ⟨_, _, hk, nb 2 Tryz.f10 (by kernel_rfl), _, run_w_heldDesk m k hpre⟩

/-! a number behind a word and a blank -/
def dg (c : Int) : Bool := decide (48 ≤ c) && decide (c ≤ 57)
theorem dg_iff {c : Int} : dg c = true ↔ 48 ≤ c ∧ c ≤ 57 := by unfold dg; simp
def dstep (a c : Int) : Int := 10 * a + c - 48
def dval (s : ByteArray) : Int := (bytesI s).foldl dstep 0
theorem bytesI_extract (s : ByteArray) (i j : Nat) : bytesI (s.extract i j) = ((bytesI s).drop i).take (j - i) := by
  unfold bytesI
  rw [ByteArray.data_extract, Array.toList_extract]
  simp [List.extract]
theorem bytesI_size (s : ByteArray) : (bytesI s).length = s.size := bytesI_len s
theorem at32 {s : ByteArray} {i : Nat} (h : i < s.size) : (s[i]! == (32 : Int).toNat.toUInt8) = decide ((bytesI s).getD i 0 = 32) := by
  have h1 : i < s.data.toList.length := by simpa using h
  have e1 : s[i]! = s.data.toList[i] := by
    simp [h, ByteArray.getElem_eq_getElem_data]
  have e2 : (bytesI s).getD i 0 = ((s.data.toList[i]).toNat : Int) := by
    have h2 : i < s.data.size := h
    unfold bytesI
    simp only [List.getD_eq_getElem?_getD, List.getElem?_map, Array.getElem?_toList, Array.getElem?_eq_getElem h2, Array.getElem_toList]
    rfl
  rw [e1, e2, Bool.eq_iff_iff, beq_iff_eq, decide_eq_true_eq]
  constructor
  · intro q; rw [q]; rfl
  · intro q
    apply UInt8.toNat_inj.1
    have : ((32 : Int).toNat.toUInt8).toNat = 32 := by decide
    omega
theorem byteFind_some {s : ByteArray} {k : Nat} : byteFind s 32 = some k ↔ k < s.size ∧ (bytesI s).getD k 0 = 32 ∧ ∀ j, j < k → (bytesI s).getD j 0 ≠ 32 := by
  unfold byteFind
  rw [List.find?_range_eq_some]
  constructor
  · rintro ⟨h1, h2, h3⟩
    have hk : k < s.size := by simpa using h2
    refine ⟨hk, ?_, fun j hj => ?_⟩
    · rw [at32 hk] at h1; exact of_decide_eq_true h1
    · have := h3 j hj
      rw [at32 (by omega)] at this
      simpa using this
  · rintro ⟨hk, h1, h2⟩
    refine ⟨by rw [at32 hk]; exact decide_eq_true h1, by simpa using hk, fun j hj => ?_⟩
    rw [at32 (by omega)]
    simpa using h2 j hj
def numS (s w : ByteArray) : Int := if (deskN (cutB s).2.1).2 = true ∧ (cutB s).1 = w then (deskN (cutB s).2.1).1 else -1
theorem deskN_nil : deskN ⟨#[]⟩ = (0, false) := by decide
theorem cutB_no {s : ByteArray} (h : byteAtI s 32 < 0) : cutB s = (s, ⟨#[]⟩, false) := if_pos h
theorem numS_blank {s w : ByteArray} (h : byteAtI s 32 < 0) : numS s w = -1 := by
  unfold numS; rw [cutB_no h, if_neg (by rw [deskN_nil]; simp)]
theorem byteAtI_some {s : ByteArray} {k : Nat} (h : byteFind s 32 = some k) : byteAtI s 32 = k := by unfold byteAtI; rw [h]
theorem byteAtI_ge {s : ByteArray} (h : ¬ byteAtI s 32 < 0) : ∃ k : Nat, byteFind s 32 = some k ∧ byteAtI s 32 = k := by
  unfold byteAtI at h ⊢
  cases e : byteFind s 32 with
  | none => rw [e] at h; exact absurd (by decide) h
  | some k => exact ⟨k, rfl, rfl⟩
theorem cutB_some {s : ByteArray} {k : Nat} (h : byteFind s 32 = some k) : cutB s = (s.extract 0 k, s.extract (k + 1) s.size, true) := by
  unfold cutB
  rw [byteAtI_some h, if_neg (by omega), Int.toNat_natCast, show ((k : Int) + 1).toNat = k + 1 by omega]
theorem deskN_true {s : ByteArray} (h : (deskN s).2 = true) : ∃ v : Nat, v < 100 ∧ s = itoaB v ∧ (deskN s).1 = v ∧ s.size ≤ 2 := by
  cases e : atoiR s with
  | none => rw [deskN_no e] at h; cases h
  | some v =>
    by_cases h1 : s.size ≤ 2 ∧ 0 ≤ v ∧ itoaB v = s
    · rw [deskN_ok e h1]
      obtain ⟨h2, h3, h4⟩ := h1
      obtain ⟨n, rfl⟩ := Int.eq_ofNat_of_zero_le h3
      refine ⟨n, ?_, h4.symm, rfl, h2⟩
      have e1 : (itoaB (n : Int)).size = Lib.nDigits n := by
        unfold itoaB
        rw [bsize]
        unfold Lib.itoa
        rw [if_neg (by omega), Int.toNat_natCast, Lib.decDigits_length]
      rw [h4] at e1
      have h5 := Lib.lt_pow_nDigits n
      have h6 := Nat.pow_le_pow_right (n := 10) (by decide) (show Lib.nDigits n ≤ 2 by omega)
      omega
    · rw [deskN_bad e h1] at h; cases h
theorem itoaB_one {v : Nat} (h : v < 10) : itoaB (v : Int) = ⟨#[UInt8.ofNat (48 + v)]⟩ := by
  unfold itoaB Lib.itoa
  rw [if_neg (by omega), Int.toNat_natCast, Lib.decDigits_one h]
theorem itoaB_two {v : Nat} (h : ¬ v < 10) (h2 : v < 100) : itoaB (v : Int) = ⟨#[UInt8.ofNat (48 + v / 10), UInt8.ofNat (48 + v % 10)]⟩ := by
  unfold itoaB Lib.itoa
  rw [if_neg (by omega), Int.toNat_natCast, Lib.decDigits_two h h2]
theorem atoi_one : ∀ v : Fin 10, atoiR ⟨#[UInt8.ofNat (48 + v.1)]⟩ = some (v.1 : Int) := by decide +kernel
theorem atoi_two : ∀ v : Fin 100, 10 ≤ v.1 → atoiR ⟨#[UInt8.ofNat (48 + v.1 / 10), UInt8.ofNat (48 + v.1 % 10)]⟩ = some (v.1 : Int) := by decide +kernel
theorem dval_one : ∀ v : Fin 10, dval ⟨#[UInt8.ofNat (48 + v.1)]⟩ = (v.1 : Int) ∧ (bytesI ⟨#[UInt8.ofNat (48 + v.1)]⟩).all dg = true := by decide +kernel
theorem dval_two : ∀ v : Fin 100, 10 ≤ v.1 → dval ⟨#[UInt8.ofNat (48 + v.1 / 10), UInt8.ofNat (48 + v.1 % 10)]⟩ = (v.1 : Int) ∧ (bytesI ⟨#[UInt8.ofNat (48 + v.1 / 10), UInt8.ofNat (48 + v.1 % 10)]⟩).all dg = true := by decide +kernel
theorem itoaB_small {v : Nat} (h : v < 100) : atoiR (itoaB v) = some (v : Int) ∧ (itoaB (v : Int)).size ≤ 2 ∧ 1 ≤ (itoaB (v : Int)).size ∧ dval (itoaB v) = v ∧ (bytesI (itoaB (v : Int))).all dg = true := by
  by_cases h1 : v < 10
  · rw [itoaB_one h1]
    exact ⟨atoi_one ⟨v, h1⟩, by show 1 ≤ 2; decide, Nat.le_refl 1, dval_one ⟨v, h1⟩⟩
  · rw [itoaB_two h1 h]
    exact ⟨atoi_two ⟨v, h⟩ (by show 10 ≤ v; omega), Nat.le_refl 2, by show 1 ≤ 2; decide, dval_two ⟨v, h⟩ (by show 10 ≤ v; omega)⟩
theorem deskN_itoa {v : Nat} (h : v < 100) : deskN (itoaB v) = ((v : Int), true) := by
  obtain ⟨h1, h2, _⟩ := itoaB_small h
  exact deskN_ok h1 ⟨h2, by omega, rfl⟩
theorem num_cut {s w : ByteArray} (h0 : ∀ j, j < w.size → (bytesI w).getD j 0 ≠ 32) (h1 : s.extract 0 w.size = w) (h2 : w.size < s.size) (h3 : (bytesI s).getD w.size 0 = 32) : cutB s = (w, s.extract (w.size + 1) s.size, true) := by
  rw [cutB_some (k := w.size) (byteFind_some.2 ⟨h2, h3, fun j hj => ?_⟩), h1]
  have e : bytesI w = (bytesI s).take w.size := by rw [← h1, bytesI_extract, h1]; simp
  have := h0 j hj
  rw [e] at this
  simpa [List.getD_eq_getElem?_getD, List.getElem?_take, hj] using this
theorem num_good {s w : ByteArray} (h0 : ∀ j, j < w.size → (bytesI w).getD j 0 ≠ 32) (h1 : s.extract 0 w.size = w) (h2 : w.size < s.size) (h3 : (bytesI s).getD w.size 0 = 32) :
    numS s w = if (deskN (s.extract (w.size + 1) s.size)).2 = true then (deskN (s.extract (w.size + 1) s.size)).1 else -1 := by
  unfold numS
  rw [num_cut h0 h1 h2 h3]
  simp
theorem num_no {s w : ByteArray} (h : s.size < w.size + 2 ∨ w.size + 3 < s.size ∨ ¬ s.extract 0 w.size = w ∨ ¬ (bytesI s).getD w.size 0 = 32) : numS s w = -1 := by
  unfold numS
  rw [if_neg]
  rintro ⟨h1, h2⟩
  by_cases hb : byteAtI s 32 < 0
  · rw [cutB_no hb, deskN_nil] at h1; cases h1
  · obtain ⟨k, hk, _⟩ := byteAtI_ge hb
    rw [cutB_some hk] at h1 h2
    dsimp only at h1 h2
    obtain ⟨v, hv, e1, e2, e3⟩ := deskN_true h1
    obtain ⟨_, _, q, _⟩ := itoaB_small hv
    rw [← e1] at q
    obtain ⟨k1, k2, _⟩ := byteFind_some.1 hk
    have z : w.size = k := by rw [← h2, ByteArray.size_extract]; omega
    rw [ByteArray.size_extract] at e3 q
    subst z
    rcases h with h | h | h | h
    · omega
    · omega
    · exact h h2
    · exact h k2
theorem num_nd {s w : ByteArray} (h0 : ∀ j, j < w.size → (bytesI w).getD j 0 ≠ 32) (h1 : s.extract 0 w.size = w) (h2 : w.size < s.size) (h3 : (bytesI s).getD w.size 0 = 32) (h4 : (bytesI (s.extract (w.size + 1) s.size)).all dg = false) : numS s w = -1 := by
  rw [num_good h0 h1 h2 h3, if_neg]
  intro h
  obtain ⟨v, hv, e1, _⟩ := deskN_true h
  obtain ⟨_, _, _, _, q⟩ := itoaB_small hv
  rw [← e1] at q
  rw [q] at h4; cases h4
theorem num_x {s w : ByteArray} {x : Int} (h0 : ∀ j, j < w.size → (bytesI w).getD j 0 ≠ 32) (h1 : s.extract 0 w.size = w) (h2 : w.size < s.size) (h3 : (bytesI s).getD w.size 0 = 32) (hx : dval (s.extract (w.size + 1) s.size) = x) (h5 : 0 ≤ x ∧ x ≤ 99) :
    numS s w = if itoaB x = s.extract (w.size + 1) s.size then x else -1 := by
  rw [num_good h0 h1 h2 h3]
  obtain ⟨n, rfl⟩ := Int.eq_ofNat_of_zero_le h5.1
  by_cases h : itoaB (n : Int) = s.extract (w.size + 1) s.size
  · rw [if_pos h, ← h, deskN_itoa (by omega)]; rfl
  · rw [if_neg h, if_neg]
    intro q
    obtain ⟨v, hv, e1, _⟩ := deskN_true q
    obtain ⟨_, _, _, e2, _⟩ := itoaB_small hv
    rw [← e1, hx] at e2
    have : n = v := by omega
    subst this
    exact h e1.symm

theorem beqB_nyes {a b : ByteArray} : (!a == b) = true ↔ ¬ a = b := by rw [Bool.not_eq_true', beqB_no]
theorem beqB_nno {a b : ByteArray} : (!a == b) = false ↔ a = b := by rw [Bool.not_eq_false', beqB_iff]
theorem tail_get (s : ByteArray) (k j : Nat) (h : k + j < s.size) : (bytesI s).getD (k + j) 0 = (bytesI (s.extract k s.size)).getD j 0 := by
  have h2 := bytesI_size s
  rw [bytesI_extract, List.getD_eq_getElem?_getD, List.getD_eq_getElem?_getD, List.getElem?_take, if_pos (by omega), List.getElem?_drop]
theorem dg_no {c : Int} (h : c < 48 ∨ 57 < c) : dg c = false := by
  cases e : dg c with
  | false => rfl
  | true => have := dg_iff.1 e; omega

def lb_s_l20Num_0 : PC := .seq (.r [.m 37 7, .m 38 0, .len 39 true 38, .bin 40 .lss 37 39] (.cond 40 .skip (.exit 0))) (.seq (.blk 1 (.seq (.r [.m 43 0, .m 44 7, .s (.sidx 45 43 44), .bin 46 .lss 45 (.k (.v (.c (.int .u8 48)))), .m 47 46, .n 47 48 (.mv 48 0), .n 47 49 (.mv 49 7), .n 47 50 (.sidx 50 48 49), .n 47 51 (.bin 51 .gtr 50 (.k (.v (.c (.int .u8 57))))), .pick 52 47 .T 51] (.cond 52 (.r [.mv 4 (.i (-1))] .ret) .skip)) (.reg [.m 53 6, .bin 54 .mul (.i 10) 53, .m 55 0, .m 56 7, .s (.sidx 57 55 56), .s (.conv 58 .i64 57), .bin 59 .add 54 58, .bin 60 .sub 59 (.i 48), .m 6 60]))) (.reg [.m 41 7, .bin 42 .add 41 (.i 1), .m 7 42]))
def pf_s_l20Num : PF := ⟨[.t 4], .r [.mv 4 (.i 0)] (.r [.m 8 1, .len 9 true 8, .m 5 9] (.seq (.r [.m 10 0, .len 11 true 10, .m 12 5, .bin 13 .add 12 (.i 2), .bin 14 .lss 11 13, .m 15 14, .n 15 16 (.mv 16 0), .n 15 17 (.len 17 true 16), .n 15 18 (.mv 18 5), .n 15 19 (.bin 19 .add 18 (.i 3)), .n 15 20 (.bin 20 .gtr 17 19), .pick 21 15 .T 20, .m 22 21, .n 22 23 (.mv 23 0), .n 22 24 (.mv 24 5), .n 22 25 (.ssl 25 23 none (some 24)), .n 22 26 (.mv 26 1), .n 22 27 (.eqs 27 false [.s] true 25 26), .pick 28 22 .T 27, .m 29 28, .n 29 30 (.mv 30 0), .n 29 31 (.mv 31 5), .n 29 32 (.sidx 32 30 31), .n 29 33 (.bin 33 .neq 32 (.k (.v (.c (.int .u8 32))))), .pick 34 29 .T 33] (.cond 34 (.r [.mv 4 (.i (-1))] .ret) .skip)) (.r [.mv 6 (.i 0)] (.seq (.r [.m 35 5, .bin 36 .add 35 (.i 1), .m 7 36] (.blk 0 (.loop [0, 5, 6, 7] lb_s_l20Num_0))) (.seq (.seq (.rgd [] [.m 61 6, .c 62 18 [61], .m 63 0, .m 64 5, .bin 65 .add 64 (.i 1), .s (.ssl 66 63 (some 65) none), .eqs 67 false [.s] true 62 66] (.ts [0, 2, 3, 4, 5] (.one 1 true (.tk 6 .d)))) (.cond 67 (.r [.mv 4 (.i (-1))] .ret) .skip)) (.r [.m 68 6, .m 4 68] .ret))))))⟩
def c_s_l20Num : Fun := ⟨47, [], fun ts K => as2 ts fun t0 t1 => arC pS t0 fun s => arC pS t1 fun w => chk (s.size ≤ 1000000000 ∧ w.size ≤ 100 ∧ ∀ j, j < w.size → (bytesI w).getD j 0 ≠ 32) (K (tN (numS s w)) [])⟩
theorem run_s_l20Num (FU : Nat) (s : ByteArray) (w : ByteArray) (hpre : s.size ≤ 1000000000 ∧ w.size ≤ 100 ∧ ∀ j, j < w.size → (bytesI w).getD j 0 ≠ 32) : runK [c_s_l7Digits] (4 + FU) [] pf_s_l20Num [.v (.c (.str s)), .v (.c (.str w))] fun r o => r = tN (numS s w) ∧ o = [] := by
  obtain ⟨l1, l2, l3⟩ := hpre
  have w2 : IntKind.i64.wrap ((w.size : Int) + 2) = (w.size : Int) + 2 := wrap_id (by omega) (by omega)
  have w3 : IntKind.i64.wrap ((w.size : Int) + 3) = (w.size : Int) + 3 := wrap_id (by omega) (by omega)
  have w1 : IntKind.i64.wrap ((w.size : Int) + 1) = ((w.size + 1 : Nat) : Int) := wrap_id (by omega) (by omega)
  conv => whnf
  repeat' (first | ((first | refine sel_i (fun h => ?_) (fun h => ?_) | refine chk_c ?_ ?_) <;> conv => whnf) | refine And.intro ?_ rfl | (refine And.intro ?_ ?_ <;> conv => whnf))
  all_goals (try simp only [w2, w3, Int.toNat_natCast, gt_iff_lt, decide_eq_true_eq, decide_eq_false_iff_not, bne_iff_ne, ne_eq, bne_eq_false_iff_eq, beqB_nyes, beqB_nno] at *)
  all_goals first
    | (refine ⟨?_⟩; omega)
    | (rw [num_no (by first | (left; omega) | (right; left; omega) | (right; right; left; assumption) | (right; right; right; assumption))]; done)
    | skip
  rw [w1]
  have h1 : s.extract 0 w.size = w := by assumption
  have h3 : (bytesI s).getD w.size 0 = 32 := by assumption
  have h2 : w.size < s.size := by omega
  have hB := bytesI_size (s.extract (w.size + 1) s.size)
  rw [ByteArray.size_extract, Nat.min_self] at hB
  have hG := fun j hj => tail_get s (w.size + 1) j hj
  have hnd := num_nd l3 h1 h2 h3
  have hxx := fun x => num_x (x := x) l3 h1 h2 h3
  unfold dval at hxx
  generalize hN : s.extract (w.size + 1) s.size = N at *
  generalize hL : bytesI N = L at *
  refine loop (α := Nat × Int) (fun q => ⟨[(0, .v (.c (.str s))), (5, .v (.c (.int .i64 (w.size : Int)))), (6, .v (.c (.int .i64 q.2))), (7, .v (.c (.int .i64 ((w.size + 1 + q.1 : Nat) : Int))))], [], nums, [], false, []⟩)
    (fun q => q.1 ≤ L.length ∧ (L.drop q.1).all dg = L.all dg ∧ L.foldl dstep 0 = (L.drop q.1).foldl dstep q.2 ∧ (q.1 = 0 ∧ q.2 = 0 ∨ q.1 = 1 ∧ 0 ≤ q.2 ∧ q.2 ≤ 9 ∨ q.1 = 2 ∧ 0 ≤ q.2 ∧ q.2 ≤ 99)) (fun q => 2 - q.1) (fun q R hI hR => ?_) (0, 0) _ ⟨Nat.zero_le _, rfl, rfl, .inl ⟨rfl, rfl⟩⟩ (by show 2 - 0 < 4 + FU; omega)
  obtain ⟨j, x⟩ := q
  obtain ⟨hj, ha, hf, hx⟩ := hI
  dsimp only at hj ha hf hx hR ⊢
  have w4 : IntKind.i64.wrap (((w.size + 1 + j : Nat) : Int) + 1) = ((w.size + 1 + (j + 1) : Nat) : Int) := by rw [wrap_id (by omega) (by omega)]; rfl
  have w5 : IntKind.i64.wrap (10 * x) = 10 * x := wrap_id (by omega) (by omega)
  conv => whnf
  repeat' (first | ((first | refine sel_i (fun h => ?_) (fun h => ?_) | refine chk_c ?_ ?_) <;> conv => whnf) | refine And.intro ?_ rfl | (refine And.intro ?_ ?_ <;> conv => whnf))
  all_goals (try simp only [w1, w4, w5, hN, Int.toNat_natCast, gt_iff_lt, decide_eq_true_eq, decide_eq_false_iff_not, beqB_nyes, beqB_nno] at *)
  all_goals first
    | (refine ⟨?_⟩; omega)
    | (have e := hG j (by omega)
       have d : dg (L.getD j 0) = false := dg_no (by omega)
       rw [hnd (all_no (by omega) d ha)]
       done)
    | (have e := hG j (by omega)
       rw [e]
       have c1 : 48 ≤ L.getD j 0 ∧ L.getD j 0 ≤ 57 := by omega
       have d : dg (L.getD j 0) = true := dg_iff.2 c1
       have hj1 : j < L.length := by omega
       have w6 : IntKind.i64.wrap (L.getD j 0) = L.getD j 0 := wrap_id (by omega) (by omega)
       have w7 : IntKind.i64.wrap (10 * x + L.getD j 0) = 10 * x + L.getD j 0 := wrap_id (by omega) (by omega)
       have w8 : IntKind.i64.wrap (10 * x + L.getD j 0 - 48) = 10 * x + L.getD j 0 - 48 := wrap_id (by omega) (by omega)
       rw [w6, w7, w8]
       exact hR (j + 1, dstep x (L.getD j 0)) ⟨by dsimp only; omega, all_yes hj1 d ha, fold_step hj1 hf, by unfold dstep; dsimp only; omega⟩ (by dsimp only; omega))
    | (have hx2 := fold_end (by omega) hf
       have hq := hxx x hx2 (by omega)
       first
         | (rw [hq, if_pos (by assumption)]; done)
         | (rw [hq, if_neg (by assumption)]; done))
    | trace_state
theorem ok_s_l20Num : FunOk Tryz.prog c_s_l20Num := funOk (eK ok_s_l7Digits eN) mixd Tryz.func47 (pf := pf_s_l20Num) (by kernel_rfl) fun ts K h => by
  obtain ⟨t0, t1, rfl, q0⟩ := as2_out h
  obtain ⟨s, rfl, q1⟩ := arC_out rd_s q0
  obtain ⟨w, rfl, q2⟩ := arC_out rd_s q1
  obtain ⟨hpre, hk⟩ := chk_o q2
  exact ⟨_, _, hk, nb 2 Tryz.f47 (by kernel_rfl), _, run_s_l20Num 0 s w hpre⟩

/-! the desk -/
abbrev pullB : ByteArray := ⟨#[112, 117, 108, 108]⟩
abbrev commitB : ByteArray := ⟨#[99, 111, 109, 109, 105, 116]⟩
abbrev settleB : ByteArray := ⟨#[115, 101, 116, 116, 108, 101]⟩
abbrev trapB' : ByteArray := ⟨#[116, 114, 97, 112]⟩
abbrev sameB : ByteArray := ⟨#[115, 97, 109, 101]⟩
abbrev doB : ByteArray := ⟨#[100, 111]⟩
abbrev sweepB : ByteArray := ⟨#[115, 119, 101, 101, 112]⟩
abbrev regB : ByteArray := ⟨#[114, 101, 103]⟩
abbrev okB : ByteArray := ⟨#[111, 107]⟩
abbrev noB : ByteArray := ⟨#[110, 111]⟩
abbrev yesB : ByteArray := ⟨#[121, 101, 115]⟩
abbrev badB : ByteArray := ⟨#[98, 97, 100]⟩
abbrev whatB : ByteArray := ⟨#[119, 104, 97, 116]⟩
abbrev noneB : ByteArray := ⟨#[110, 111, 110, 101]⟩
def runAll (l : List Inst) (ns : List Int) : State := ns.foldl (fun s n => runS l s [n]) stateNew
theorem runAll_fold (l : List Inst) : ∀ {ns : List Int} {s : State}, LState s 2147483647 → LState (ns.foldl (fun s n => runS l s [n]) s) 2147483647
  | [], _, h => h
  | n :: ns, s, h => runAll_fold l (ns := ns) (s := runS l s [n]) (runS_len h)
theorem stateNew_l : LState stateNew 2147483647 := ⟨by decide +kernel, by decide +kernel, by decide +kernel⟩
theorem runAll_l (l : List Inst) (ns : List Int) : LState (runAll l ns) 2147483647 := runAll_fold l stateNew_l
def pickD (d : Desk) (p : Pick) : Desk × ByteArray :=
  (⟨d.list, (pickC d.list d.c p).1, if (pickC d.list d.c p).2 = true ∧ (notedC p).2 = true then d.order ++ [(notedC p).1] else d.order⟩, if (pickC d.list d.c p).2 = true then okB else noB)
theorem pickD_add {d : Desk} {p : Pick} (h : (pickC d.list d.c p).2 = true) (h2 : (notedC p).2 = true) : pickD d p = (⟨d.list, (pickC d.list d.c p).1, d.order ++ [(notedC p).1]⟩, okB) := by
  unfold pickD; rw [if_pos ⟨h, h2⟩, if_pos h]
theorem pickD_ok {d : Desk} {p : Pick} (h : (pickC d.list d.c p).2 = true) (h2 : (notedC p).2 = false) : pickD d p = (⟨d.list, (pickC d.list d.c p).1, d.order⟩, okB) := by
  unfold pickD; rw [if_neg (by rw [h2]; simp), if_pos h]
theorem pickD_no {d : Desk} {p : Pick} (h : (pickC d.list d.c p).2 = false) : pickD d p = (⟨d.list, (pickC d.list d.c p).1, d.order⟩, noB) := by
  unfold pickD; rw [if_neg (by rw [h]; simp), if_neg (by rw [h]; decide)]

def pf_slices_Clone_Ins : PF := ⟨[.t 2], .r [.mv 2 (.k (.v (.c (.nils .inst))))] (.seq (.r [.m 3 0, .s (.isnil 4 3)] (.cond 4 (.r [.mv 2 (.k (.v (.c (.nils .inst))))] .ret) .skip)) (.r [.bs 5 .inst [], .m 6 0, .app 7 .inst 5 6, .m 2 7] .ret))⟩
def c_slices_Clone_Ins : Fun := ⟨58, [], fun ts K => as1 ts fun t0 => arC (pL .inst) t0 fun a => chk (a.length ≤ 2147483647) (K (tL true .inst a) [])⟩
theorem ok_slices_Clone_Ins : FunOk Tryz.prog c_slices_Clone_Ins := funOkN (E := []) envOk_nil mixd Tryz.func58 (pf := pf_slices_Clone_Ins) (by kernel_rfl) rfl (Nat.le_of_ble_eq_true (show Nat.ble 1 Tryz.f58.ntmps = true by kernel_rfl)) fun ts K h => by
  obtain ⟨t0, e0, h⟩ := as1_out h
  subst e0
  obtain ⟨a, e1, h⟩ := arC_out (rd_l .inst) h
  subst e1
  obtain ⟨hpre, h⟩ := chk_o h
  refine ⟨.inst, a, _, rfl, h, 0, fun e => ?_, ?_⟩
  · subst e
    conv => whnf
    exact ⟨rfl, rfl⟩
  · conv => whnf
    repeat' (refine chk_c ?_ ?_ <;> conv => whnf)
    all_goals first
      | (refine ⟨?_⟩; simp; omega)
      | exact ⟨rfl, rfl⟩

def pf_i_cloneDesk : PF := ⟨[.c 2 true 21], .r [.box 1 0, .alloc 2 zcD] (.seq (.rgd [] [.f 3 1 0, .l 4 1 3, .c 5 58 [4], .f 6 1 1, .L 7 19 6, .c 8 59 [7], .f 9 1 20, .l 10 1 9, .c 11 60 [10], .build 12 zcD [(0, 1, 5), (1, 19, 8), (20, 1, 11)], .o 21 2 12] (.ts [0, 1, 3, 4, 6, 7] (.one 2 false (.one 5 false (.one 8 true (.tk 9 (.one 10 true .d))))))) .ret)⟩
def c_i_cloneDesk : Fun := ⟨25, [], fun ts K => as1 ts fun t0 => arG pDeskT t0 fun d => chk (LDesk d 2147483647) (K (tG (d.tc true [])) [])⟩
theorem run_i_cloneDesk (d : Desk) (hpre : LDesk d 2147483647) : runK [c_slices_Clone_Ins, c_i_cloneCore, c_slices_Clone_int] (0) [] pf_i_cloneDesk [tG (d.tc false [])] fun r o => r = tG (d.tc true []) ∧ o = [] := by
  obtain ⟨l1, l2, l3⟩ := hpre
  conv => whnf
  repeat' (first | (refine chk_c ?_ ?_ <;> conv => whnf) | (refine And.intro ?_ ?_ <;> conv => whnf))
  all_goals first
    | (refine ⟨?_⟩; assumption)
    | trivial
    | rfl
    | trace_state
theorem ok_i_cloneDesk : FunOk Tryz.prog c_i_cloneDesk := funOk (eK ok_slices_Clone_Ins (eK ok_i_cloneCore (eK ok_slices_Clone_int eN))) mixd Tryz.func25 (pf := pf_i_cloneDesk) (by kernel_rfl) fun ts K h => by
  obtain ⟨t0, rfl, q0⟩ := as1_out h
  obtain ⟨d, rfl, q1⟩ := arG_out rd_desk q0
  obtain ⟨hpre, hk⟩ := chk_o q1
  exact ⟨_, _, hk, nb 1 Tryz.f25 (by kernel_rfl), _, run_i_cloneDesk d hpre⟩

def pf_i_yesNo : PF := ⟨[.t 6], .r [.mv 6 (.k (.v (.c (.str ⟨#[]⟩))))] (.seq (.r [.m 7 0] (.cond 7 (.r [.m 8 1, .m 6 8] .ret) .skip)) (.r [.m 9 2, .m 6 9] .ret))⟩
def c_i_yesNo : Fun := ⟨72, [], fun ts K => as3 ts fun t0 t1 t2 => arC pB t0 fun b => arC pS t1 fun x => arC pS t2 fun y => K (.v (.c (.str (if b = true then x else y)))) []⟩
theorem run_i_yesNo (b : Bool) (x : ByteArray) (y : ByteArray) : runK [] (0) [] pf_i_yesNo [tB b, .v (.c (.str x)), .v (.c (.str y))] fun r o => r = .v (.c (.str (if b = true then x else y))) ∧ o = [] := by
  conv => whnf
  repeat' (first | ((first | refine sel_i (fun h => ?_) (fun h => ?_) | refine chk_c ?_ ?_) <;> conv => whnf) | refine And.intro ?_ rfl | (refine And.intro ?_ ?_ <;> conv => whnf))
  all_goals first
    | (rw [if_pos h]; done)
    | (rw [h]; rfl)
    | trace_state
theorem ok_i_yesNo : FunOk Tryz.prog c_i_yesNo := funOk (eN) mixd Tryz.func72 (pf := pf_i_yesNo) (by kernel_rfl) fun ts K h => by
  obtain ⟨t0, t1, t2, rfl, q0⟩ := as3_out h
  obtain ⟨b, rfl, q1⟩ := arC_out rd_b q0
  obtain ⟨x, rfl, q2⟩ := arC_out rd_s q1
  obtain ⟨y, rfl, q3⟩ := arC_out rd_s q2
  exact ⟨_, _, q3, nb 3 Tryz.f72 (by kernel_rfl), _, run_i_yesNo b x y⟩

def pf_i_Desk_pick : PF := ⟨[.t 4], .r [.box 3 1, .mv 4 (.k (.v (.c (.str ⟨#[]⟩))))] (.seq (.rgd [] [.m 10 0, .nchk 11 10, .f 12 11 0, .l 13 1 12, .m 14 0, .nchk 15 14, .f 16 15 1, .L 17 19 16, .L 18 2 3, .c 19 118 [13, 17, 18], .m 9 19, .ext 20 9 0, .ext 21 9 1, .alloc 5 zcC, .o 19 5 20, .m 6 21] (.ts [0, 1, 2, 3, 4, 5, 6, 7, 8] (.alt 9 false (.ts [10, 11, 12] (.one 13 false (.one 14 true (.tk 15 (.done (some [0, 3, 5, 6])))))) (.alt 13 false (.one 9 true (.ts [10, 11, 12] (.one 14 true (.tk 15 (.done (some [0, 3, 5, 6])))))) .nil)))) (.r [.m 22 0, .L 23 19 5, .nchk 24 22, .f 25 24 1, .o 19 25 23] (.seq (.r [.L 27 2 3, .c 28 119 [27], .m 26 28, .ext 29 26 0, .ext 30 26 1, .m 7 29, .m 8 30] (.r [.m 31 6, .m 32 31, .y 32 33 (.mv 33 8), .pick 34 32 33 .F] (.cond 34 (.reg [.m 35 0, .m 36 0, .nchk 37 36, .f 38 37 20, .l 39 1 38, .m 40 7, .bs 41 (.int .i64) [40], .app 42 (.int .i64) 39 41, .nchk 43 35, .f 44 43 20, .o 1 44 42]) .skip))) (.r [.m 45 6, .c 46 72 [45, (.k (.v (.c (.str ⟨#[111, 107]⟩)))), (.k (.v (.c (.str ⟨#[110, 111]⟩))))], .m 4 46] .ret))))⟩
def c_i_Desk_pick : Fun := ⟨67, [true, false], fun ts K => as2 ts fun t0 t1 => arQ pDeskO t0 fun d => arG pPickT t1 fun p => chk (LDesk d 1048576) (K (.v (.c (.str (pickD d p).2))) ([.v (.ptr true 0 ((pickD d p).1.tc true []))]))⟩
theorem run_i_Desk_pick (d : Desk) (p : Pick) (hpre : LDesk d 1048576) : runK [c_i_yesNo, c_i_CorePick, c_i_noted] (0) [true, false] pf_i_Desk_pick [.v (.ptr true 0 (d.tc true [])), tG (p.tc [])] fun r o => r = .v (.c (.str (pickD d p).2)) ∧ o = [.v (.ptr true 0 ((pickD d p).1.tc true []))] := by
  obtain ⟨l1, l2, l3⟩ := hpre
  have m1 : d.list.length ≤ 2147483647 := by omega
  have m2 : LCore d.c 2147483647 := l2.mono (by decide)
  have n0 := @pickD_add d p
  have n1 := @pickD_ok d p
  have n2 := @pickD_no d p
  conv => whnf
  repeat' (first | ((first | refine sel_i (fun h => ?_) (fun h => ?_) | refine chk_c ?_ ?_) <;> conv => whnf) | refine And.intro ?_ rfl | (refine And.intro ?_ ?_ <;> conv => whnf))
  all_goals (try simp only [etaKey, etaWord, etaMemory, etaState, etaCore, etaPick] at *)
  all_goals first
    | trivial
    | (refine ⟨?_⟩; exact ⟨m1, m2⟩)
    | (refine ⟨?_⟩; simp only [List.length_cons, List.length_nil]; omega)
    | (rw [n0 (by assumption) (by assumption)]; first | done | rfl | (rw [if_pos (by assumption)]; done))
    | (rw [n1 (by assumption) (by assumption)]; first | done | rfl | (rw [if_pos (by assumption)]; done))
    | (rw [n2 (by assumption)]; first | done | rfl | (rw [if_neg (by rw [show (pickC d.list d.c p).2 = false by assumption]; decide)]; done))
    | trace_state
theorem ok_i_Desk_pick : FunOk Tryz.prog c_i_Desk_pick := funOk (eK ok_i_yesNo (eK ok_i_CorePick (eK ok_i_noted eN))) mixd Tryz.func67 (pf := pf_i_Desk_pick) (by kernel_rfl) fun ts K h => by
  obtain ⟨t0, t1, rfl, q0⟩ := as2_out h
  obtain ⟨d, rfl, q1⟩ := arQ_out rd_deskO q0
  obtain ⟨p, rfl, q2⟩ := arG_out rd_pick q1
  obtain ⟨hpre, hk⟩ := chk_o q2
  exact ⟨_, _, hk, nb 2 Tryz.f67 (by kernel_rfl), _, run_i_Desk_pick d p hpre⟩

def dkC (d : Desk) (i : Nat) : List Cell := .sl false .inst i :: stC d.c.s (i + 1) (i + 2) (i + 3) (.sl false .entry (i + 4) :: d.c.next.flat [.bool d.c.stop, .sl false (.int .i64) (i + 5), .sl false (.int .i64) (i + 6)])

def lb_i_Desk_same_0 : PC := .r [.bin 13 .lss 12 11] (.seq (.cond 13 .skip (.exit 0)) (.seq (.blk 1 (.r [.ia 14 (.int .i64) 10 12, .l 15 1 14, .m 5 15] (.rgd [] [.m 16 0, .nchk 17 16, .f 18 17 0, .l 19 1 18, .L 20 10 3, .m 21 5, .bs 22 (.int .i64) [21], .c 23 125 [19, 20, 22], .o 10 3 23] (.ts [0, 1, 2, 3, 4, 5] (.one 6 false (.one 7 true (.one 8 true .d))))))) (.reg [.bin 24 .add 12 (.i 1), .m 12 24])))
def pf_i_Desk_same : PF := ⟨[.t 2], .r [.mv 2 .F] (.r [.c 6 124 [], .alloc 3 zcS, .o 10 3 6] (.seq (.r [.m 7 0, .nchk 8 7, .f 9 8 20, .l 10 1 9, .len 11 false 10, .mv 12 (.i 0)] (.blk 0 (.loop [0, 3, 10, 11, 12] lb_i_Desk_same_0))) (.seq (.rgd [] [.m 25 0, .nchk 26 25, .f 27 26 1, .f 28 27 0, .L 29 10 28, .L 30 10 3, .c 31 126 [29, 30], .m 2 31] (.ts [0, 1, 2, 3, 4, 5] (.one 6 true (.tk 7 .d)))) .ret)))⟩
def c_i_Desk_same : Fun := ⟨73, [], fun ts K => as1 ts fun t0 => arP pDeskT t0 fun d => chk (LDesk d 1048576) (K (tB (decide (d.c.s = runAll d.list d.order))) [])⟩
theorem run_i_Desk_same (FU : Nat) (d : Desk) (hpre : LDesk d 1048576) : runK [c_i_StateNew, c_i_Run, c_i_Alike] (2147483700 + FU) [] pf_i_Desk_same [.v (.ptr false 0 (d.tc false []))] fun r o => r = tB (decide (d.c.s = runAll d.list d.order)) ∧ o = [] := by
  obtain ⟨l1, l2, l3⟩ := hpre
  have m1 : d.list.length ≤ 2147483647 := by omega
  have m2 : LState d.c.s 2147483647 := l2.1.mono (by decide)
  conv => whnf
  repeat' (first | ((first | refine sel_i (fun h => ?_) (fun h => ?_) | refine chk_c ?_ ?_) <;> conv => whnf) | refine And.intro ?_ rfl | (refine And.intro ?_ ?_ <;> conv => whnf))
  have hA : d.order.foldl (fun s n => runS d.list s [n]) stateNew = runAll d.list d.order := rfl
  have hS := stateNew_l
  generalize stateNew = s0 at *
  refine loop (α := Nat × State) (fun q => ⟨[(0, .v (.c (.ptr 0 0))), (3, .v (.c (.ptr 8 0))), (10, .v (.c (.sl false (.int .i64) 7))), (11, .v (.c (.int .i64 (d.order.length : Int)))), (12, .v (.c (.int .i64 (q.1 : Int))))],
        [(11, some (.flat true .bool none q.2.mem.gone)), (10, some (.flat true .word none q.2.mem.words)), (9, some (.flat true .word none q.2.regs)), (8, some (.box true (stC q.2 9 10 11 []))), (7, some (.flat false (.int .i64) none d.order)), (6, some (.flat false (.int .i64) none d.c.guesses)), (5, some (.flat false .entry none d.c.rob)), (4, some (.flat false .bool none d.c.s.mem.gone)), (3, some (.flat false .word none d.c.s.mem.words)), (2, some (.flat false .word none d.c.s.regs)), (1, some (.flat false .inst none d.list)), (0, some (.box false (dkC d 1)))], nums.tail.tail.tail.tail.tail.tail.tail.tail.tail.tail.tail.tail, [], false, []⟩)
    (fun q => q.1 ≤ d.order.length ∧ LState q.2 2147483647 ∧ d.order.foldl (fun s n => runS d.list s [n]) s0 = (d.order.drop q.1).foldl (fun s n => runS d.list s [n]) q.2) (fun q => d.order.length - q.1) (fun q R hI hR => ?_) (0, s0) _ ⟨Nat.zero_le _, hS, rfl⟩ (by show d.order.length - 0 < 2147483700 + FU; omega)
  obtain ⟨k, v⟩ := q
  obtain ⟨hk, hl, hg⟩ := hI
  dsimp only at hk hl hg hR ⊢
  have w1 : IntKind.i64.wrap ((k : Int) + 1) = ((k + 1 : Nat) : Int) := by rw [wrap_id (by omega) (by omega)]; rfl
  conv => whnf
  repeat' (first | ((first | refine sel_i (fun h => ?_) (fun h => ?_) | refine chk_c ?_ ?_) <;> conv => whnf) | refine And.intro ?_ rfl | (refine And.intro ?_ ?_ <;> conv => whnf))
  all_goals (try simp only [etaKey, etaWord, etaMemory, etaState, w1, Int.toNat_natCast, ge_iff_le, gt_iff_lt, Bool.not_eq_true', Bool.not_eq_false', decide_eq_true_eq, decide_eq_false_iff_not] at *)
  all_goals first
    | (refine ⟨?_⟩; exact ⟨m1, hl, by show 1 ≤ 2147483647; decide⟩)
    | (refine ⟨?_⟩; exact ⟨m2, hl⟩)
    | (refine ⟨?_⟩; omega)
    | (exact hR (k + 1, runS d.list v [d.order.getD k (FT.zero (.int .i64))]) ⟨by dsimp only; omega, runS_len hl, fold_step (by omega) hg⟩ (by dsimp only; omega))
    | (rw [← hA, fold_end (by omega) hg]; done)
    | trace_state
theorem ok_i_Desk_same : FunOk Tryz.prog c_i_Desk_same := funOk (eK ok_i_StateNew (eK ok_i_Run (eK ok_i_Alike eN))) mixd Tryz.func73 (pf := pf_i_Desk_same) (by kernel_rfl) fun ts K h => by
  obtain ⟨t0, rfl, q0⟩ := as1_out h
  obtain ⟨d, rfl, q1⟩ := arP_out rd_desk q0
  obtain ⟨hpre, hk⟩ := chk_o q1
  exact ⟨_, _, hk, nb 1 Tryz.f73 (by kernel_rfl), _, run_i_Desk_same 0 d hpre⟩

def numD (d : Desk) (w : ByteArray) (n : Int) : Desk × ByteArray :=
  if w = doB then pickD d ⟨2, n⟩ else if w = sweepB then pickD d ⟨4, n⟩ else if w = regB then (d, if 8 ≤ n then noneB else wordB (d.c.s.regs.getD n.toNat (FT.zero .word))) else (d, whatB)
theorem numD_do {d : Desk} {w : ByteArray} {n : Int} (h : w = doB) : numD d w n = pickD d ⟨2, n⟩ := if_pos h
theorem numD_sw {d : Desk} {w : ByteArray} {n : Int} (h : ¬ w = doB) (h2 : w = sweepB) : numD d w n = pickD d ⟨4, n⟩ := (if_neg h).trans (if_pos h2)
theorem numD_rg {d : Desk} {w : ByteArray} {n : Int} (h : ¬ w = doB) (h2 : ¬ w = sweepB) (h3 : w = regB) (h4 : ¬ 8 ≤ n) : numD d w n = (d, wordB (d.c.s.regs.getD n.toNat (FT.zero .word))) := by
  unfold numD; rw [if_neg h, if_neg h2, if_pos h3, if_neg h4]
theorem numD_ro {d : Desk} {w : ByteArray} {n : Int} (h : ¬ w = doB) (h2 : ¬ w = sweepB) (h3 : w = regB) (h4 : 8 ≤ n) : numD d w n = (d, noneB) := by
  unfold numD; rw [if_neg h, if_neg h2, if_pos h3, if_pos h4]
theorem numD_x {d : Desk} {w : ByteArray} {n : Int} (h : ¬ w = doB) (h2 : ¬ w = sweepB) (h3 : ¬ w = regB) : numD d w n = (d, whatB) := by
  unfold numD; rw [if_neg h, if_neg h2, if_neg h3]
def lineD (d : Desk) (s : ByteArray) : Desk × ByteArray :=
  if s = pullB then pickD d ⟨1, 0⟩ else if s = commitB then pickD d ⟨3, 0⟩ else
  if s = settleB then (⟨d.list, (settle d.c).1, d.order ++ List.replicate (settle d.c).2.toNat (-1)⟩, itoaB (settle d.c).2) else
  if s = trapB' then (d, trapB d.c.s.trap) else if s = sameB then (d, if d.c.s = runAll d.list d.order then yesB else noB) else
  if (deskN (cutB s).2.1).2 = false then (d, whatB) else numD d (cutB s).1 (deskN (cutB s).2.1).1
def lineF (d : Desk) (s : ByteArray) : Desk × ByteArray :=
  if coreOk d.c = false then (d, badB) else if s = ⟨#[]⟩ ∨ (bytesI s).getD 0 0 = 59 then (d, ⟨#[]⟩) else lineD d s
theorem lineD_1 {d : Desk} {s : ByteArray} (h : s = pullB) : lineD d s = pickD d ⟨1, 0⟩ := if_pos h
theorem lineD_2 {d : Desk} {s : ByteArray} (h1 : ¬ s = pullB) (h : s = commitB) : lineD d s = pickD d ⟨3, 0⟩ := (if_neg h1).trans (if_pos h)
theorem lineD_3 {d : Desk} {s : ByteArray} (h1 : ¬ s = pullB) (h2 : ¬ s = commitB) (h : s = settleB) : lineD d s = (⟨d.list, (settle d.c).1, d.order ++ List.replicate (settle d.c).2.toNat (-1)⟩, itoaB (settle d.c).2) := (if_neg h1).trans ((if_neg h2).trans (if_pos h))
theorem lineD_4 {d : Desk} {s : ByteArray} (h1 : ¬ s = pullB) (h2 : ¬ s = commitB) (h3 : ¬ s = settleB) (h : s = trapB') : lineD d s = (d, trapB d.c.s.trap) := (if_neg h1).trans ((if_neg h2).trans ((if_neg h3).trans (if_pos h)))
theorem lineD_5 {d : Desk} {s : ByteArray} (h1 : ¬ s = pullB) (h2 : ¬ s = commitB) (h3 : ¬ s = settleB) (h4 : ¬ s = trapB') (h : s = sameB) : lineD d s = (d, if d.c.s = runAll d.list d.order then yesB else noB) := (if_neg h1).trans ((if_neg h2).trans ((if_neg h3).trans ((if_neg h4).trans (if_pos h))))
theorem lineD_6 {d : Desk} {s : ByteArray} (h1 : ¬ s = pullB) (h2 : ¬ s = commitB) (h3 : ¬ s = settleB) (h4 : ¬ s = trapB') (h5 : ¬ s = sameB) (h : (deskN (cutB s).2.1).2 = false) : lineD d s = (d, whatB) := (if_neg h1).trans ((if_neg h2).trans ((if_neg h3).trans ((if_neg h4).trans ((if_neg h5).trans (if_pos h)))))
theorem lineD_7 {d : Desk} {s : ByteArray} (h1 : ¬ s = pullB) (h2 : ¬ s = commitB) (h3 : ¬ s = settleB) (h4 : ¬ s = trapB') (h5 : ¬ s = sameB) (h : (deskN (cutB s).2.1).2 = true) : lineD d s = numD d (cutB s).1 (deskN (cutB s).2.1).1 := (if_neg h1).trans ((if_neg h2).trans ((if_neg h3).trans ((if_neg h4).trans ((if_neg h5).trans (if_neg (by rw [h]; decide))))))
theorem lineF_b {d : Desk} {s : ByteArray} (h : coreOk d.c = false) : lineF d s = (d, badB) := if_pos h
theorem lineF_e {d : Desk} {s : ByteArray} (h : coreOk d.c = true) (h2 : s = ⟨#[]⟩ ∨ (bytesI s).getD 0 0 = 59) : lineF d s = (d, ⟨#[]⟩) := (if_neg (by rw [h]; decide)).trans (if_pos h2)
theorem lineF_l {d : Desk} {s : ByteArray} (h : coreOk d.c = true) (h2 : ¬ s = ⟨#[]⟩) (h3 : ¬ (bytesI s).getD 0 0 = 59) : lineF d s = lineD d s := (if_neg (by rw [h]; decide)).trans (if_neg (by rintro (q | q); exact h2 q; exact h3 q))
theorem size_pos {s : ByteArray} (h : ¬ s = ⟨#[]⟩) : 0 < s.size := by
  apply Nat.pos_of_ne_zero
  intro q
  apply h
  apply ByteArray.ext
  exact Array.eq_empty_of_size_eq_zero q
theorem cut_size {s : ByteArray} {n : Nat} (h : s.size ≤ n) : (cutB s).1.size ≤ n ∧ (cutB s).2.1.size ≤ n := by
  unfold cutB
  split
  · exact ⟨h, Nat.zero_le _⟩
  · dsimp only
    rw [ByteArray.size_extract, ByteArray.size_extract]
    omega
theorem deskN_bnd {s : ByteArray} (h : (deskN s).2 = true) : 0 ≤ (deskN s).1 ∧ (deskN s).1 ≤ 99 := by
  obtain ⟨v, hv, _, e, _⟩ := deskN_true h
  omega

def pf_i_Desk_numbered : PF := ⟨[.t 6], .r [.mv 6 (.k (.v (.c (.str ⟨#[]⟩))))] (.seq (.r [.m 7 1] (.blk 0 (.r [.eqs 9 false [.s] false 7 (.k (.v (.c (.str ⟨#[100, 111]⟩)))), .m 8 9] (.cond 8 (.r [.m 10 0, .m 11 2, .build 12 [.int .i64 0, .int .i64 0] [(0, 1, (.i 2)), (1, 1, 11)], .c 13 67 [10, 12], .m 6 13] .ret) (.r [.eqs 15 false [.s] false 7 (.k (.v (.c (.str ⟨#[115, 119, 101, 101, 112]⟩)))), .m 14 15] (.cond 14 (.r [.m 16 0, .m 17 2, .build 18 [.int .i64 0, .int .i64 0] [(0, 1, (.i 4)), (1, 1, 17)], .c 19 67 [16, 18], .m 6 19] .ret) (.r [.eqs 21 false [.s] false 7 (.k (.v (.c (.str ⟨#[114, 101, 103]⟩)))), .m 20 21] (.cond 20 (.seq (.r [.m 22 2, .bin 23 .geq 22 (.i 8)] (.cond 23 (.r [.mv 6 (.k (.v (.c (.str ⟨#[110, 111, 110, 101]⟩))))] .ret) .skip)) (.r [.m 24 0, .nchk 25 24, .f 26 25 1, .f 27 26 0, .f 28 27 0, .l 29 1 28, .m 30 2, .ia 31 .word 29 30, .L 32 6 31, .c 33 129 [32], .m 6 33] .ret)) .skip)))))))) (.r [.mv 6 (.k (.v (.c (.str ⟨#[119, 104, 97, 116]⟩))))] .ret))⟩
def c_i_Desk_numbered : Fun := ⟨76, [true, false, false], fun ts K => as3 ts fun t0 t1 t2 => arQ pDeskO t0 fun d => arC pS t1 fun w => arC (pI .i64) t2 fun n => chk (LDesk d 1048576 ∧ LenOk d.c.s ∧ 0 ≤ n ∧ n ≤ 99) (K (.v (.c (.str (numD d w n).2))) ([.v (.ptr true 0 ((numD d w n).1.tc true []))]))⟩
theorem run_i_Desk_numbered (d : Desk) (w : ByteArray) (n : Int) (hpre : LDesk d 1048576 ∧ LenOk d.c.s ∧ 0 ≤ n ∧ n ≤ 99) : runK [c_i_Desk_pick, c_i_WordText] (0) [true, false, false] pf_i_Desk_numbered [.v (.ptr true 0 (d.tc true [])), .v (.c (.str w)), tI .i64 n] fun r o => r = .v (.c (.str (numD d w n).2)) ∧ o = [.v (.ptr true 0 ((numD d w n).1.tc true []))] := by
  obtain ⟨l1, l2, l3, l4⟩ := hpre
  have l5 := l2.1
  conv => whnf
  repeat' (first | ((first | refine sel_i (fun h => ?_) (fun h => ?_) | refine chk_c ?_ ?_) <;> conv => whnf) | refine And.intro ?_ rfl | (refine And.intro ?_ ?_ <;> conv => whnf))
  all_goals (try simp only [etaKey, etaWord, etaMemory, etaState, etaCore, etaDesk, etaPick, beqB_iff, beqB_no, ge_iff_le, decide_eq_true_eq, decide_eq_false_iff_not] at *)
  all_goals first
    | (refine ⟨?_⟩; exact l1)
    | (refine ⟨?_⟩; omega)
    | (rw [numD_do (by assumption)]; first | done | rfl)
    | (rw [numD_sw (by assumption) (by assumption)]; first | done | rfl)
    | (rw [numD_rg (by assumption) (by assumption) (by assumption) (by assumption)]; first | done | rfl)
    | (rw [numD_ro (by assumption) (by assumption) (by assumption) (by assumption)]; first | done | rfl)
    | (rw [numD_x (by assumption) (by assumption) (by assumption)]; first | done | rfl)
    | trace_state
theorem ok_i_Desk_numbered : FunOk Tryz.prog c_i_Desk_numbered := funOk (eK ok_i_Desk_pick (eK ok_i_WordText eN)) mixd Tryz.func76 (pf := pf_i_Desk_numbered) (by kernel_rfl) fun ts K h => by
  obtain ⟨t0, t1, t2, rfl, q0⟩ := as3_out h
  obtain ⟨d, rfl, q1⟩ := arQ_out rd_deskO q0
  obtain ⟨w, rfl, q2⟩ := arC_out rd_s q1
  obtain ⟨n, rfl, q3⟩ := arC_out (rd_int .i64) q2
  obtain ⟨hpre, hk⟩ := chk_o q3
  exact ⟨_, _, hk, nb 3 Tryz.f76 (by kernel_rfl), _, run_i_Desk_numbered d w n hpre⟩

def pf_i_Desk_line : PF := ⟨[.t 4], .r [.mv 4 (.k (.v (.c (.str ⟨#[]⟩))))] (.seq (.r [.m 12 1] (.blk 0 (.r [.eqs 14 false [.s] false 12 (.k (.v (.c (.str ⟨#[112, 117, 108, 108]⟩)))), .m 13 14] (.cond 13 (.r [.m 15 0, .build 16 [.int .i64 0, .int .i64 0] [(0, 1, (.i 1))], .c 17 67 [15, 16], .m 4 17] .ret) (.r [.eqs 19 false [.s] false 12 (.k (.v (.c (.str ⟨#[99, 111, 109, 109, 105, 116]⟩)))), .m 18 19] (.cond 18 (.r [.m 20 0, .build 21 [.int .i64 0, .int .i64 0] [(0, 1, (.i 3))], .c 22 67 [20, 21], .m 4 22] .ret) (.r [.eqs 24 false [.s] false 12 (.k (.v (.c (.str ⟨#[115, 101, 116, 116, 108, 101]⟩)))), .m 23 24] (.cond 23 (.seq (.rgd [] [.m 26 0, .nchk 27 26, .f 28 27 0, .l 29 1 28, .m 30 0, .nchk 31 30, .f 32 31 1, .L 33 19 32, .c 34 68 [29, 33], .m 25 34, .ext 35 25 0, .ext 36 25 1, .alloc 5 zcC, .o 19 5 35, .m 6 36] (.ts [0, 1, 2, 3, 4, 5, 6, 7] (.alt 8 false (.ts [9, 10, 11] (.one 12 false (.one 13 true (.tk 14 (.done (some [0, 5, 6])))))) (.alt 12 false (.one 8 true (.ts [9, 10, 11] (.one 13 true (.tk 14 (.done (some [0, 5, 6])))))) .nil)))) (.r [.m 37 0, .L 38 19 5, .nchk 39 37, .f 40 39 1, .o 19 40 38] (.seq (.rgd [] [.m 41 0, .m 42 0, .nchk 43 42, .f 44 43 20, .l 45 1 44, .bs 46 (.int .i64) [(.i (-1))], .m 47 6, .c 48 69 [46, 47], .app 49 (.int .i64) 45 48, .nchk 50 41, .f 51 50 20, .o 1 51 49] (.ts [0, 1, 2, 3, 4, 6] (.one 5 false (.one 7 false (.one 8 true (.ts [9, 10] (.one 11 true .d))))))) (.r [.m 52 6, .c 53 70 [52], .m 4 53] .ret)))) (.r [.eqs 55 false [.s] false 12 (.k (.v (.c (.str ⟨#[116, 114, 97, 112]⟩)))), .m 54 55] (.cond 54 (.r [.m 56 0, .nchk 57 56, .f 58 57 1, .f 59 58 0, .f 60 59 9, .l 61 1 60, .c 62 71 [61], .m 4 62] .ret) (.r [.eqs 64 false [.s] false 12 (.k (.v (.c (.str ⟨#[115, 97, 109, 101]⟩)))), .m 63 64] (.cond 63 (.r [.m 65 0, .c 66 73 [65], .c 67 72 [66, (.k (.v (.c (.str ⟨#[121, 101, 115]⟩)))), (.k (.v (.c (.str ⟨#[110, 111]⟩))))], .m 4 67] .ret) .skip)))))))))))) (.r [.m 69 1, .c 70 74 [69, (.k (.v (.c (.str ⟨#[32]⟩))))], .m 68 70, .ext 71 68 0, .ext 72 68 1, .ext 73 68 2, .m 7 71, .m 8 72, .m 9 73] (.r [.m 75 8, .c 76 75 [75], .m 74 76, .ext 77 74 0, .ext 78 74 1, .m 10 77, .m 11 78] (.seq (.r [.m 79 11, .bnot 80 79] (.cond 80 (.r [.mv 4 (.k (.v (.c (.str ⟨#[119, 104, 97, 116]⟩))))] .ret) .skip)) (.r [.m 81 0, .m 82 7, .m 83 10, .c 84 76 [81, 82, 83], .m 4 84] .ret)))))⟩
def c_i_Desk_line : Fun := ⟨27, [true, false], fun ts K => as2 ts fun t0 t1 => arQ pDeskO t0 fun d => arC pS t1 fun s => chk (LDesk d 1048576 ∧ coreOk d.c = true ∧ s.size ≤ 1000000000) (K (.v (.c (.str (lineD d s).2))) ([.v (.ptr true 0 ((lineD d s).1.tc true []))]))⟩
theorem run_i_Desk_line (d : Desk) (s : ByteArray) (hpre : LDesk d 1048576 ∧ coreOk d.c = true ∧ s.size ≤ 1000000000) : runK [c_i_Desk_pick, c_i_Settle, c_slices_Repeat_int, c_strconv_Itoa, c_i_TrapText, c_i_yesNo, c_i_Desk_same, c_strings_Cut, c_i_deskNumber, c_i_Desk_numbered] (0) [true, false] pf_i_Desk_line [.v (.ptr true 0 (d.tc true [])), .v (.c (.str s))] fun r o => r = .v (.c (.str (lineD d s).2)) ∧ o = [.v (.ptr true 0 ((lineD d s).1.tc true []))] := by
  obtain ⟨l1, l2, l3⟩ := hpre
  have l5 := coreOk_len l2
  have l6 := coreOk_l l2
  have l7 := settle_cnt (c := d.c)
  have l8 := cut_size l3
  have l9 : d.list.length ≤ 2147483647 ∧ d.order.length ≤ 1048576 := ⟨by have := l1.1; omega, l1.2.2⟩
  have l10 := @deskN_bnd (cutB s).2.1
  conv => whnf
  repeat' (first | ((first | refine sel_i (fun h => ?_) (fun h => ?_) | refine chk_c ?_ ?_) <;> conv => whnf) | refine And.intro ?_ rfl | (refine And.intro ?_ ?_ <;> conv => whnf))
  all_goals (try simp only [etaKey, etaWord, etaMemory, etaState, etaCore, etaDesk, etaPick, beqB_iff, beqB_no, ge_iff_le, decide_eq_true_eq, decide_eq_false_iff_not, Bool.not_eq_true', Bool.not_eq_false'] at *)
  all_goals first
    | trivial
    | (refine ⟨?_⟩; first | exact l1 | exact l6 | exact l8.2)
    | (refine ⟨?_⟩; exact ⟨rfl, l3⟩)
    | (refine ⟨?_⟩; exact ⟨l9.1, l6⟩)
    | (refine ⟨?_⟩; exact ⟨l1, l5.1, (l10 (by assumption)).1, (l10 (by assumption)).2⟩)
    | (refine ⟨?_⟩; exact ⟨rfl, l7.1, by omega⟩)
    | (refine ⟨?_⟩; rw [List.length_replicate]; omega)
    | (refine ⟨?_⟩; omega)
    | (rw [lineD_1 (by assumption)]; first | done | rfl)
    | (rw [lineD_2 (by assumption) (by assumption)]; first | done | rfl)
    | (rw [lineD_3 (by assumption) (by assumption) (by assumption)]; first | done | rfl)
    | (rw [lineD_4 (by assumption) (by assumption) (by assumption) (by assumption)]; first | done | rfl)
    | (rw [lineD_5 (by assumption) (by assumption) (by assumption) (by assumption) (by assumption)]; first | done | rfl)
    | (rw [lineD_6 (by assumption) (by assumption) (by assumption) (by assumption) (by assumption) (by assumption)]; first | done | rfl)
    | (rw [lineD_7 (by assumption) (by assumption) (by assumption) (by assumption) (by assumption) (by assumption)]; first | done | rfl)
    | trace_state
theorem ok_i_Desk_line : FunOk Tryz.prog c_i_Desk_line := funOk (eK ok_i_Desk_pick (eK ok_i_Settle (eK ok_slices_Repeat_int (eK ok_strconv_Itoa (eK ok_i_TrapText (eK ok_i_yesNo (eK ok_i_Desk_same (eK ok_strings_Cut (eK ok_i_deskNumber (eK ok_i_Desk_numbered eN)))))))))) mixd Tryz.func27 (pf := pf_i_Desk_line) (by kernel_rfl) fun ts K h => by
  obtain ⟨t0, t1, rfl, q0⟩ := as2_out h
  obtain ⟨d, rfl, q1⟩ := arQ_out rd_deskO q0
  obtain ⟨s, rfl, q2⟩ := arC_out rd_s q1
  obtain ⟨hpre, hk⟩ := chk_o q2
  exact ⟨_, _, hk, nb 2 Tryz.f27 (by kernel_rfl), _, run_i_Desk_line d s hpre⟩

def pf_i_DeskLine : PF := ⟨[.c 4 true 21, .t 5], .r [.box 2 0, .alloc 4 zcD, .mv 5 (.k (.v (.c (.str ⟨#[]⟩))))] (.r [.L 8 21 2, .c 9 25 [8], .alloc 6 zcD, .o 21 6 9] (.seq (.r [.f 10 2 1, .L 11 19 10, .c 12 26 [11], .bnot 13 12] (.cond 13 (.r [.L 14 21 6, .o 21 4 14, .mv 5 (.k (.v (.c (.str ⟨#[98, 97, 100]⟩))))] .ret) .skip)) (.seq (.r [.m 15 1, .eqs 16 false [.s] false 15 (.k (.v (.c (.str ⟨#[]⟩)))), .m 17 16, .n 17 18 (.mv 18 1), .n 17 19 (.sidx 19 18 (.i 0)), .n 17 20 (.bin 20 .eql 19 (.k (.v (.c (.int .u8 59))))), .pick 21 17 .T 20] (.cond 21 (.r [.L 22 21 6, .o 21 4 22, .mv 5 (.k (.v (.c (.str ⟨#[]⟩))))] .ret) .skip)) (.r [.m 23 1, .c 24 27 [6, 23], .m 7 24] (.r [.L 25 21 6, .m 26 7, .o 21 4 25, .m 5 26] .ret)))))⟩
def c_i_DeskLine : Fun := ⟨7, [], fun ts K => as2 ts fun t0 t1 => arG pDeskT t0 fun d => arC pS t1 fun s => chk (LDesk d 1048576 ∧ s.size ≤ 1000000000) (K (.tup [.g ((lineF d s).1.tc true []), .c (.str (lineF d s).2)]) [])⟩
theorem run_i_DeskLine (d : Desk) (s : ByteArray) (hpre : LDesk d 1048576 ∧ s.size ≤ 1000000000) : runK [c_i_cloneDesk, c_i_CoreOk, c_i_Desk_line] (0) [] pf_i_DeskLine [tG (d.tc false []), .v (.c (.str s))] fun r o => r = .tup [.g ((lineF d s).1.tc true []), .c (.str (lineF d s).2)] ∧ o = [] := by
  obtain ⟨l1, l2⟩ := hpre
  have l3 : LDesk d 2147483647 := ⟨by have := l1.1; omega, l1.2.1.mono (by decide), by have := l1.2.2; omega⟩
  have l4 := l3.2.1
  conv => whnf
  repeat' (first | ((first | refine sel_i (fun h => ?_) (fun h => ?_) | refine chk_c ?_ ?_) <;> conv => whnf) | refine And.intro ?_ rfl | (refine And.intro ?_ ?_ <;> conv => whnf))
  all_goals (try simp only [etaKey, etaWord, etaMemory, etaState, etaCore, etaDesk, etaPick, beqB_iff, beqB_no, ge_iff_le, decide_eq_true_eq, decide_eq_false_iff_not, Bool.not_eq_true', Bool.not_eq_false', beq_iff_eq, beq_eq_false_iff_ne, ne_eq] at *)
  all_goals first
    | trivial
    | (refine ⟨?_⟩; first | exact l3 | exact l4)
    | (refine ⟨?_⟩; exact ⟨l1, by assumption, l2⟩)
    | (refine ⟨?_⟩; have := size_pos (by assumption); omega)
    | (rw [lineF_b (by assumption)]; first | done | rfl)
    | (rw [lineF_e (by assumption) (.inl (by assumption))]; first | done | rfl)
    | (rw [lineF_e (by assumption) (.inr (by assumption))]; first | done | rfl)
    | (rw [lineF_l (by assumption) (by assumption) (by assumption)]; first | done | rfl)
    | trace_state
theorem ok_i_DeskLine : FunOk Tryz.prog c_i_DeskLine := funOk (eK ok_i_cloneDesk (eK ok_i_CoreOk (eK ok_i_Desk_line eN))) mixd Tryz.func7 (pf := pf_i_DeskLine) (by kernel_rfl) fun ts K h => by
  obtain ⟨t0, t1, rfl, q0⟩ := as2_out h
  obtain ⟨d, rfl, q1⟩ := arG_out rd_desk q0
  obtain ⟨s, rfl, q2⟩ := arC_out rd_s q1
  obtain ⟨hpre, hk⟩ := chk_o q2
  exact ⟨_, _, hk, nb 2 Tryz.f7 (by kernel_rfl), _, run_i_DeskLine d s hpre⟩

def pf_s_l20Copy : PF := ⟨[.c 2 true 21], .r [.box 1 0, .alloc 2 zcD] (.seq (.rgd [] [.bs 3 .inst [], .f 4 1 0, .l 5 1 4, .app 6 .inst 3 5, .f 7 1 1, .L 8 19 7, .c 9 39 [8], .bs 10 (.int .i64) [], .f 11 1 20, .l 12 1 11, .app 13 (.int .i64) 10 12, .build 14 zcD [(0, 1, 6), (1, 19, 9), (20, 1, 13)], .o 21 2 14] (.ts [1, 2, 4, 5, 8, 9] (.alt 0 false (.alt 3 false (.alt 6 false (.one 7 false (.one 10 true (.tk 11 (.one 12 true (.done (some [2])))))) (.alt 7 false (.one 6 false (.one 10 true (.tk 11 (.one 12 true (.done (some [2])))))) .nil)) (.alt 7 false (.one 3 false (.one 6 false (.one 10 true (.tk 11 (.one 12 true (.done (some [2]))))))) .nil)) (.alt 7 false (.one 0 false (.one 3 false (.one 6 false (.one 10 true (.tk 11 (.one 12 true (.done (some [2])))))))) .nil)))) .ret)⟩
def c_s_l20Copy : Fun := ⟨14, [], fun ts K => as1 ts fun t0 => arG pDeskT t0 fun d => chk (LDesk d 2147483647) (K (tG (d.tc true [])) [])⟩
theorem run_s_l20Copy (d : Desk) (hpre : LDesk d 2147483647) : runK [c_s_l12Copy] (0) [] pf_s_l20Copy [tG (d.tc false [])] fun r o => r = tG (d.tc true []) ∧ o = [] := by
  obtain ⟨l1, l2, l3⟩ := hpre
  conv => whnf
  repeat' (first | (refine chk_c ?_ ?_ <;> conv => whnf) | (refine And.intro ?_ ?_ <;> conv => whnf))
  all_goals first
    | (refine ⟨?_⟩; assumption)
    | (refine ⟨?_⟩; simp only [List.length_nil]; omega)
    | trivial
    | rfl
    | trace_state
theorem ok_s_l20Copy : FunOk Tryz.prog c_s_l20Copy := funOk (eK ok_s_l12Copy eN) mixd Tryz.func14 (pf := pf_s_l20Copy) (by kernel_rfl) fun ts K h => by
  obtain ⟨t0, rfl, q0⟩ := as1_out h
  obtain ⟨d, rfl, q1⟩ := arG_out rd_desk q0
  obtain ⟨hpre, hk⟩ := chk_o q1
  exact ⟨_, _, hk, nb 1 Tryz.f14 (by kernel_rfl), _, run_s_l20Copy d hpre⟩

theorem eq_yes2 {α : Type} {xs ys : List α} {i : Nat} {z : α} (h : i < xs.length) (h2 : i < ys.length) (hq : xs.getD i z = ys.getD i z) (he : xs.take i = ys.take i) : xs.take (i + 1) = ys.take (i + 1) := by
  have e1 : xs.getD i z = xs[i] := by simp [List.getD_eq_getElem?_getD, h]
  have e2 : ys.getD i z = ys[i] := by simp [List.getD_eq_getElem?_getD, h2]
  rw [List.take_succ_eq_append_getElem h, List.take_succ_eq_append_getElem h2, he, ← e1, ← e2, hq]
theorem eq_lens {α : Type} [DecidableEq α] {xs ys : List α} {i : Nat} (h : xs.length ≤ i ∨ ys.length ≤ i) (he : xs.take i = ys.take i) : ((xs.length : Int) == (ys.length : Int)) = decide (xs = ys) := by
  rw [Bool.eq_iff_iff, beq_iff_eq, decide_eq_true_eq]
  constructor
  · intro q
    rw [List.take_of_length_le (by omega), List.take_of_length_le (by omega)] at he
    exact he
  · intro q; rw [q]
theorem win_one {α : Type} {z : α} {xs : List α} {k : Nat} (h : k < xs.length) : win xs (0 + k) (((k + 1 : Nat) : Int) - (k : Int)).toNat = [xs.getD k z] := by
  rw [Nat.zero_add, show (((k + 1 : Nat) : Int) - (k : Int)).toNat = 1 by omega]
  unfold win
  rw [List.drop_eq_getElem_cons h, List.getD_eq_getElem?_getD, List.getElem?_eq_getElem h]
  rfl
theorem eqSt {s t : State} : decide (s = t) = (decide (s.mem.gone = t.mem.gone) && (decide (s.regs = t.regs) && (decide (s.pc = t.pc) && ((s.trap == t.trap) && decide (s.mem.words = t.mem.words))))) := by
  obtain ⟨a1, a2, ⟨a3, a4⟩, a5⟩ := s
  obtain ⟨b1, b2, ⟨b3, b4⟩, b5⟩ := t
  rw [Bool.eq_iff_iff]
  simp only [decide_eq_true_eq, Bool.and_eq_true, beq_iff_eq, State.mk.injEq, Mem.mk.injEq]
  constructor
  · rintro ⟨h1, h2, ⟨h3, h4⟩, h5⟩; exact ⟨h4, h1, h2, h5, h3⟩
  · rintro ⟨h1, h2, h3, h4, h5⟩; exact ⟨h2, h3, ⟨h5, h1⟩, h4⟩

def lb_s_l17Words_0 : PC := .seq (.r [.m 6 5, .m 7 0, .len 8 false 7, .bin 9 .lss 6 8, .m 10 9, .y 10 11 (.mv 11 5), .y 10 12 (.mv 12 1), .y 10 13 (.len 13 false 12), .y 10 14 (.bin 14 .lss 11 13), .pick 15 10 14 .F] (.cond 15 .skip (.exit 0))) (.seq (.blk 1 (.seq (.rgd [] [.m 18 0, .m 19 5, .ia 20 .word 18 19, .L 21 6 20, .m 22 1, .m 23 5, .ia 24 .word 22 23, .L 25 6 24, .eqs 26 true [.i, .b, .i, .i, .i, .i] true 21 25] (.ts [0, 1, 2, 3, 4, 5, 6, 7, 8] .d)) (.cond 26 (.r [.mv 4 .F] .ret) .skip))) (.reg [.m 16 5, .bin 17 .add 16 (.i 1), .m 5 17]))
def pf_s_l17Words : PF := ⟨[.t 4], .r [.mv 4 .F] (.seq (.r [.mv 5 (.i 0)] (.blk 0 (.loop [0, 1, 5] lb_s_l17Words_0))) (.r [.m 27 0, .len 28 false 27, .m 29 1, .len 30 false 29, .bin 31 .eql 28 30, .m 4 31] .ret))⟩
def c_s_l17Words : Fun := ⟨91, [], fun ts K => as2 ts fun t0 t1 => arC (pL .word) t0 fun a => arC (pL .word) t1 fun b => chk (a.length ≤ 2147483647 ∧ b.length ≤ 2147483647) (K (tB (decide (a = b))) [])⟩
theorem run_s_l17Words (FU : Nat) (a : List (FT.Ty .word)) (b : List (FT.Ty .word)) (hpre : a.length ≤ 2147483647 ∧ b.length ≤ 2147483647) : runK [] (2147483700 + FU) [] pf_s_l17Words [tL false .word a, tL false .word b] fun r o => r = tB (decide (a = b)) ∧ o = [] := by
  obtain ⟨l1, l2⟩ := hpre
  conv => whnf
  repeat' (first | ((first | refine sel_i (fun h => ?_) (fun h => ?_) | refine chk_c ?_ ?_) <;> conv => whnf) | refine And.intro ?_ rfl | (refine And.intro ?_ ?_ <;> conv => whnf))
  refine loop (α := Nat) (fun i => ⟨[(0, .v (.c (.sl false .word 0))), (1, .v (.c (.sl false .word 1))), (5, .v (.c (.int .i64 (i : Int))))],
        [(1, some (.flat false .word none b)), (0, some (.flat false .word none a))], nums.tail.tail, [], false, []⟩)
    (fun i => i ≤ a.length ∧ i ≤ b.length ∧ a.take i = b.take i) (fun i => a.length - i) (fun i R hI hR => ?_) 0 _ ⟨Nat.zero_le _, Nat.zero_le _, by simp⟩ (by omega)
  obtain ⟨hi, hi2, hx⟩ := hI
  have w1 : IntKind.i64.wrap ((i : Int) + 1) = ((i + 1 : Nat) : Int) := by rw [wrap_id (by omega) (by omega)]; rfl
  conv => whnf
  repeat' (first | ((first | refine sel_i (fun h => ?_) (fun h => ?_) | refine chk_c ?_ ?_) <;> conv => whnf) | refine And.intro ?_ rfl | (refine And.intro ?_ ?_ <;> conv => whnf))
  all_goals (try simp only [eqWd, etaKey, etaWord, w1, Int.toNat_natCast, Bool.not_eq_true', Bool.not_eq_false', decide_eq_true_eq, decide_eq_false_iff_not] at *)
  all_goals first
    | (refine ⟨?_⟩; omega)
    | (rw [eq_no (z := FT.zero .word) (by assumption)]; done)
    | (exact hR (i + 1) ⟨by omega, by omega, eq_yes2 (z := FT.zero .word) (by omega) (by omega) (by assumption) hx⟩ (by omega))
    | (rw [eq_lens (by omega) hx]; done)
    | trace_state
theorem ok_s_l17Words : FunOk Tryz.prog c_s_l17Words := funOk (eN) mixd Tryz.func91 (pf := pf_s_l17Words) (by kernel_rfl) fun ts K h => by
  obtain ⟨t0, t1, rfl, q0⟩ := as2_out h
  obtain ⟨a, rfl, q1⟩ := arC_out (rd_l .word) q0
  obtain ⟨b, rfl, q2⟩ := arC_out (rd_l .word) q1
  obtain ⟨hpre, hk⟩ := chk_o q2
  exact ⟨_, _, hk, nb 2 Tryz.f91 (by kernel_rfl), _, run_s_l17Words 0 a b hpre⟩

def lb_s_Alike_0 : PC := .seq (.r [.m 6 5, .f 7 2 7, .f 8 7 1, .l 9 1 8, .len 10 false 9, .bin 11 .lss 6 10, .m 12 11, .y 12 13 (.mv 13 5), .y 12 14 (.fa 14 3 7), .y 12 15 (.fa 15 14 1), .y 12 16 (.load 16 false 1 15), .y 12 17 (.len 17 false 16), .y 12 18 (.bin 18 .lss 13 17), .pick 19 12 18 .F] (.cond 19 .skip (.exit 0))) (.seq (.blk 1 (.seq (.rgd [] [.f 22 2 7, .f 23 22 1, .l 24 1 23, .m 25 5, .ia 26 .bool 24 25, .l 27 1 26, .f 28 3 7, .f 29 28 1, .l 30 1 29, .m 31 5, .ia 32 .bool 30 31, .l 33 1 32, .eqs 34 false [.b] true 27 33] (.ts [0, 1, 2, 3, 4, 5, 6, 7, 8, 9, 10, 11, 12] .d)) (.cond 34 (.r [.mv 4 .F] .ret) .skip))) (.reg [.m 20 5, .bin 21 .add 20 (.i 1), .m 5 21]))
def pf_s_Alike : PF := ⟨[.t 4], .r [.box 2 0, .box 3 1, .mv 4 .F] (.seq (.r [.mv 5 (.i 0)] (.blk 0 (.loop [2, 3, 5] lb_s_Alike_0))) (.r [.f 35 2 7, .f 36 35 1, .l 37 1 36, .len 38 false 37, .f 39 3 7, .f 40 39 1, .l 41 1 40, .len 42 false 41, .bin 43 .eql 38 42, .m 44 43, .y 44 45 (.fa 45 2 0), .y 44 46 (.load 46 false 1 45), .y 44 47 (.fa 47 3 0), .y 44 48 (.load 48 false 1 47), .y 44 49 (.call (some 49) 91 [46, 48]), .pick 50 44 49 .F, .m 51 50, .y 51 52 (.fa 52 2 1), .y 51 53 (.load 53 true 6 52), .y 51 54 (.fa 54 3 1), .y 51 55 (.load 55 true 6 54), .y 51 56 (.eqs 56 true [.i, .b, .i, .i, .i, .i] false 53 55), .pick 57 51 56 .F, .m 58 57, .y 58 59 (.fa 59 2 9), .y 58 60 (.load 60 false 1 59), .y 58 61 (.fa 61 3 9), .y 58 62 (.load 62 false 1 61), .y 58 63 (.bin 63 .eql 60 62), .pick 64 58 63 .F, .m 65 64, .y 65 66 (.fa 66 2 7), .y 65 67 (.fa 67 66 0), .y 65 68 (.load 68 false 1 67), .y 65 69 (.fa 69 3 7), .y 65 70 (.fa 70 69 0), .y 65 71 (.load 71 false 1 70), .y 65 72 (.call (some 72) 91 [68, 71]), .pick 73 65 72 .F, .m 4 73] .ret))⟩
def c_s_Alike : Fun := ⟨45, [], fun ts K => as2 ts fun t0 t1 => arG pStateT t0 fun s => arG pStateT t1 fun t => chk (LState s 2147483647 ∧ LState t 2147483647) (K (tB (decide (s = t))) [])⟩
theorem run_s_Alike (FU : Nat) (s : State) (t : State) (hpre : LState s 2147483647 ∧ LState t 2147483647) : runK [c_s_l17Words] (2147483700 + FU) [] pf_s_Alike [tG (s.tc false []), tG (t.tc false [])] fun r o => r = tB (decide (s = t)) ∧ o = [] := by
  obtain ⟨⟨l1, l2, l3⟩, l4, l5, l6⟩ := hpre
  rw [eqSt]
  conv => whnf
  repeat' (first | ((first | refine sel_i (fun h => ?_) (fun h => ?_) | refine chk_c ?_ ?_) <;> conv => whnf) | refine And.intro ?_ rfl | (refine And.intro ?_ ?_ <;> conv => whnf))
  refine loop (α := Nat) (fun i => ⟨[(2, .v (.c (.ptr 0 0))), (3, .v (.c (.ptr 4 0))), (5, .v (.c (.int .i64 (i : Int))))],
        [(7, some (.flat false .bool none t.mem.gone)), (6, some (.flat false .word none t.mem.words)), (5, some (.flat false .word none t.regs)), (4, some (.box true (stC t 5 6 7 []))), (3, some (.flat false .bool none s.mem.gone)), (2, some (.flat false .word none s.mem.words)), (1, some (.flat false .word none s.regs)), (0, some (.box true (stC s 1 2 3 [])))], nums.tail.tail.tail.tail.tail.tail.tail.tail, [], false, []⟩)
    (fun i => i ≤ s.mem.gone.length ∧ i ≤ t.mem.gone.length ∧ s.mem.gone.take i = t.mem.gone.take i) (fun i => s.mem.gone.length - i) (fun i R hI hR => ?_) 0 _ ⟨Nat.zero_le _, Nat.zero_le _, by simp⟩ (by omega)
  obtain ⟨hi, hi2, hx⟩ := hI
  have w1 : IntKind.i64.wrap ((i : Int) + 1) = ((i + 1 : Nat) : Int) := by rw [wrap_id (by omega) (by omega)]; rfl
  conv => whnf
  repeat' (first | ((first | refine sel_i (fun h => ?_) (fun h => ?_) | refine chk_c ?_ ?_) <;> conv => whnf) | refine And.intro ?_ rfl | (refine And.intro ?_ ?_ <;> conv => whnf))
  all_goals (try simp only [eqWd, etaKey, etaWord, w1, Int.toNat_natCast, Bool.not_eq_true', Bool.not_eq_false', decide_eq_true_eq, decide_eq_false_iff_not] at *)
  all_goals first
    | (refine ⟨?_⟩; omega)
    | (refine ⟨?_⟩; exact ⟨by assumption, by assumption⟩)
    | (have q := ne_of_beq_false (show (s.mem.gone.getD i (FT.zero .bool) == t.mem.gone.getD i (FT.zero .bool)) = false by assumption)
       rw [eq_no (z := FT.zero .bool) q]; rfl)
    | (have q := eq_of_beq (show (s.mem.gone.getD i (FT.zero .bool) == t.mem.gone.getD i (FT.zero .bool)) = true by assumption)
       exact hR (i + 1) ⟨by omega, by omega, eq_yes2 (z := FT.zero .bool) (by omega) (by omega) q hx⟩ (by omega))
    | (rw [← eq_lens (by omega) hx]
       simp only [*, decide_true, decide_false, Bool.true_and, Bool.false_and, Bool.and_true, Bool.and_false]
       done)
    | trace_state
theorem ok_s_Alike : FunOk Tryz.prog c_s_Alike := funOk (eK ok_s_l17Words eN) mixd Tryz.func45 (pf := pf_s_Alike) (by kernel_rfl) fun ts K h => by
  obtain ⟨t0, t1, rfl, q0⟩ := as2_out h
  obtain ⟨s, rfl, q1⟩ := arG_out rd_state q0
  obtain ⟨t, rfl, q2⟩ := arG_out rd_state q1
  obtain ⟨hpre, hk⟩ := chk_o q2
  exact ⟨_, _, hk, nb 2 Tryz.f45 (by kernel_rfl), _, run_s_Alike 0 s t hpre⟩

def lb_s_l20Run_0 : PC := .seq (.r [.m 8 6, .m 9 1, .len 10 false 9, .bin 11 .lss 8 10] (.cond 11 .skip (.exit 0))) (.seq (.blk 1 (.rgd [] [.m 14 0, .L 15 10 5, .m 16 1, .m 17 6, .m 18 6, .bin 19 .add 18 (.i 1), .s (.slc 20 (.int .i64) 16 (some 17) (some 19)), .c 21 93 [14, 15, 20], .o 10 5 21] (.ts [0, 1, 2, 3, 4, 5] (.one 6 false (.one 7 true (.one 8 true .d)))))) (.reg [.m 12 6, .bin 13 .add 12 (.i 1), .m 6 13]))
def pf_s_l20Run : PF := ⟨[.c 4 true 10], .r [.alloc 4 zcS] (.r [.c 7 92 [], .alloc 5 zcS, .o 10 5 7] (.seq (.r [.mv 6 (.i 0)] (.blk 0 (.loop [0, 1, 4, 5, 6] lb_s_l20Run_0))) (.r [.L 22 10 5, .o 10 4 22] .ret)))⟩
def c_s_l20Run : Fun := ⟨46, [], fun ts K => as2 ts fun t0 t1 => arC (pL .inst) t0 fun l => arC (pL (.int .i64)) t1 fun ns => chk (l.length ≤ 2147483647 ∧ ns.length ≤ 1048576) (K (tG ((runAll l ns).tc true [])) [])⟩
theorem run_s_l20Run (FU : Nat) (l : List (FT.Ty .inst)) (ns : List (FT.Ty (.int .i64))) (hpre : l.length ≤ 2147483647 ∧ ns.length ≤ 1048576) : runK [c_s_StateNew, c_s_Run] (2147483700 + FU) [] pf_s_l20Run [tL false .inst l, tL false (.int .i64) ns] fun r o => r = tG ((runAll l ns).tc true []) ∧ o = [] := by
  obtain ⟨l1, l2⟩ := hpre
  conv => whnf
  repeat' (first | ((first | refine sel_i (fun h => ?_) (fun h => ?_) | refine chk_c ?_ ?_) <;> conv => whnf) | refine And.intro ?_ rfl | (refine And.intro ?_ ?_ <;> conv => whnf))
  have hA : ns.foldl (fun s n => runS l s [n]) stateNew = runAll l ns := rfl
  have hS := stateNew_l
  generalize stateNew = s0 at *
  refine loop (α := Nat × State) (fun q => ⟨[(0, .v (.c (.sl false .inst 0))), (1, .v (.c (.sl false (.int .i64) 1))), (4, .v (.c (.ptr 2 0))), (5, .v (.c (.ptr 3 0))), (6, .v (.c (.int .i64 (q.1 : Int))))],
        [(6, some (.flat true .bool none q.2.mem.gone)), (5, some (.flat true .word none q.2.mem.words)), (4, some (.flat true .word none q.2.regs)), (3, some (.box true (stC q.2 4 5 6 []))), (2, some (.box true zSC)), (1, some (.flat false (.int .i64) none ns)), (0, some (.flat false .inst none l))], nums.tail.tail.tail.tail.tail.tail.tail, [], false, []⟩)
    (fun q => q.1 ≤ ns.length ∧ LState q.2 2147483647 ∧ ns.foldl (fun s n => runS l s [n]) s0 = (ns.drop q.1).foldl (fun s n => runS l s [n]) q.2) (fun q => ns.length - q.1) (fun q R hI hR => ?_) (0, s0) _ ⟨Nat.zero_le _, hS, rfl⟩ (by show ns.length - 0 < 2147483700 + FU; omega)
  obtain ⟨k, v⟩ := q
  obtain ⟨hk, hl, hg⟩ := hI
  dsimp only at hk hl hg hR ⊢
  have w1 : IntKind.i64.wrap ((k : Int) + 1) = ((k + 1 : Nat) : Int) := by rw [wrap_id (by omega) (by omega)]; rfl
  conv => whnf
  repeat' (first | ((first | refine sel_i (fun h => ?_) (fun h => ?_) | refine chk_c ?_ ?_) <;> conv => whnf) | refine And.intro ?_ rfl | (refine And.intro ?_ ?_ <;> conv => whnf))
  all_goals (try simp only [etaKey, etaWord, etaMemory, etaState, w1, Int.toNat_natCast, ge_iff_le, gt_iff_lt, Bool.not_eq_true', Bool.not_eq_false', decide_eq_true_eq, decide_eq_false_iff_not] at *)
  all_goals first
    | (refine ⟨?_⟩; omega)
    | (rw [← hA, fold_end (by omega) hg]; rfl)
    | (have hwin := win_one (z := FT.zero (.int .i64)) (show k < ns.length by omega)
       rw [hwin]
       refine ⟨?_⟩
       exact ⟨l1, hl, by show 1 ≤ 2147483647; decide⟩)
    | (have hwin := win_one (z := FT.zero (.int .i64)) (show k < ns.length by omega)
       rw [hwin]
       exact hR (k + 1, runS l v [ns.getD k (FT.zero (.int .i64))]) ⟨by dsimp only; omega, runS_len hl, fold_step (by omega) hg⟩ (by dsimp only; omega))
    | trace_state
theorem ok_s_l20Run : FunOk Tryz.prog c_s_l20Run := funOk (eK ok_s_StateNew (eK ok_s_Run eN)) mixd Tryz.func46 (pf := pf_s_l20Run) (by kernel_rfl) fun ts K h => by
  obtain ⟨t0, t1, rfl, q0⟩ := as2_out h
  obtain ⟨l, rfl, q1⟩ := arC_out (rd_l .inst) q0
  obtain ⟨ns, rfl, q2⟩ := arC_out (rd_l (.int .i64)) q1
  obtain ⟨hpre, hk⟩ := chk_o q2
  exact ⟨_, _, hk, nb 2 Tryz.f46 (by kernel_rfl), _, run_s_l20Run 0 l ns hpre⟩

def askD (d : Desk) (s : ByteArray) : ByteArray :=
  if s = trapB' then trapB d.c.s.trap else if s = sameB then (if d.c.s = runAll d.list d.order then yesB else noB) else
  if numS s regB < 0 then ⟨#[]⟩ else if 7 < numS s regB then noneB else wordB (d.c.s.regs.getD (numS s regB).toNat (FT.zero .word))
theorem askD_t {d : Desk} {s : ByteArray} (h : s = trapB') : askD d s = trapB d.c.s.trap := if_pos h
theorem askD_s {d : Desk} {s : ByteArray} (h : ¬ s = trapB') (h2 : s = sameB) : askD d s = if d.c.s = runAll d.list d.order then yesB else noB := (if_neg h).trans (if_pos h2)
theorem askD_0 {d : Desk} {s : ByteArray} (h : ¬ s = trapB') (h2 : ¬ s = sameB) (h3 : numS s regB < 0) : askD d s = ⟨#[]⟩ := (if_neg h).trans ((if_neg h2).trans (if_pos h3))
theorem askD_n {d : Desk} {s : ByteArray} (h : ¬ s = trapB') (h2 : ¬ s = sameB) (h3 : ¬ numS s regB < 0) (h4 : 7 < numS s regB) : askD d s = noneB := (if_neg h).trans ((if_neg h2).trans ((if_neg h3).trans (if_pos h4)))
theorem askD_w {d : Desk} {s : ByteArray} (h : ¬ s = trapB') (h2 : ¬ s = sameB) (h3 : ¬ numS s regB < 0) (h4 : ¬ 7 < numS s regB) : askD d s = wordB (d.c.s.regs.getD (numS s regB).toNat (FT.zero .word)) := (if_neg h).trans ((if_neg h2).trans ((if_neg h3).trans (if_neg h4)))
def pickS (s : ByteArray) : Pick × Bool :=
  if s = pullB then (⟨1, 0⟩, true) else if s = commitB then (⟨3, 0⟩, true) else if 0 ≤ numS s doB then (⟨2, numS s doB⟩, true) else (⟨4, numS s sweepB⟩, decide (0 ≤ numS s sweepB))
theorem pickS_1 {s : ByteArray} (h : s = pullB) : pickS s = (⟨1, 0⟩, true) := if_pos h
theorem pickS_2 {s : ByteArray} (h : ¬ s = pullB) (h2 : s = commitB) : pickS s = (⟨3, 0⟩, true) := (if_neg h).trans (if_pos h2)
theorem pickS_3 {s : ByteArray} (h : ¬ s = pullB) (h2 : ¬ s = commitB) (h3 : 0 ≤ numS s doB) : pickS s = (⟨2, numS s doB⟩, true) := (if_neg h).trans ((if_neg h2).trans (if_pos h3))
theorem pickS_4 {s : ByteArray} (h : ¬ s = pullB) (h2 : ¬ s = commitB) (h3 : ¬ 0 ≤ numS s doB) : pickS s = (⟨4, numS s sweepB⟩, decide (0 ≤ numS s sweepB)) := (if_neg h).trans ((if_neg h2).trans (if_neg h3))
def notedL (p : Pick) : Int × Bool := if p.kind = 4 then (p.n, true) else (-1, decide (p.kind = 3))
theorem no32_do : ∀ j, j < doB.size → (bytesI doB).getD j 0 ≠ 32 := by decide
theorem no32_sw : ∀ j, j < sweepB.size → (bytesI sweepB).getD j 0 ≠ 32 := by decide
theorem no32_rg : ∀ j, j < regB.size → (bytesI regB).getD j 0 ≠ 32 := by decide
theorem numS_bnd (s w : ByteArray) : -1 ≤ numS s w ∧ numS s w ≤ 99 := by
  unfold numS
  split
  · rename_i h
    have := deskN_bnd h.1
    omega
  · omega

def pf_s_l16Number : PF := ⟨[.t 2, .t 3], .r [.box 1 0, .mv 2 (.i 0), .mv 3 .F] (.seq (.r [.f 4 1 0, .l 5 1 4, .bin 6 .eql 5 (.i 4)] (.cond 6 (.r [.f 7 1 1, .l 8 1 7, .m 2 8, .mv 3 .T] .ret) .skip)) (.seq (.rgd [] [.f 9 1 0, .l 10 1 9, .bin 11 .eql 10 (.i 3), .mv 2 (.i (-1)), .m 3 11] (.ts [0, 1, 2, 3, 4] .d)) .ret))⟩
def c_s_l16Number : Fun := ⟨21, [], fun ts K => as1 ts fun t0 => arG pPickT t0 fun p => K (.tup [.c (.int .i64 (notedL p).1), .c (.bool (notedL p).2)]) []⟩
theorem run_s_l16Number (p : Pick) : runK [] (0) [] pf_s_l16Number [tG (p.tc [])] fun r o => r = .tup [.c (.int .i64 (notedL p).1), .c (.bool (notedL p).2)] ∧ o = [] := by
  conv => whnf
  repeat' (first | ((first | refine sel_i (fun h => ?_) (fun h => ?_) | refine chk_c ?_ ?_) <;> conv => whnf) | refine And.intro ?_ rfl | (refine And.intro ?_ ?_ <;> conv => whnf))
  all_goals (try simp only [beq_iff_eq, beq_eq_false_iff_ne, ne_eq] at *)
  all_goals first
    | (unfold notedL; rw [if_pos (by assumption)]; done)
    | (unfold notedL; rw [if_neg (by assumption)]; rfl)
    | trace_state
theorem ok_s_l16Number : FunOk Tryz.prog c_s_l16Number := funOk (eN) mixd Tryz.func21 (pf := pf_s_l16Number) (by kernel_rfl) fun ts K h => by
  obtain ⟨t0, rfl, q0⟩ := as1_out h
  obtain ⟨p, rfl, q1⟩ := arG_out rd_pick q0
  exact ⟨_, _, q1, nb 1 Tryz.f21 (by kernel_rfl), _, run_s_l16Number p⟩

def pf_s_l20Pick : PF := ⟨[.c 2 true 2, .t 3], .r [.alloc 2 [.int .i64 0, .int .i64 0], .mv 3 .F] (.seq (.r [.m 5 0] (.blk 0 (.r [.eqs 7 false [.s] false 5 (.k (.v (.c (.str ⟨#[112, 117, 108, 108]⟩)))), .m 6 7] (.cond 6 (.r [.build 8 [.int .i64 0, .int .i64 0] [(0, 1, (.i 1))], .o 2 2 8, .mv 3 .T] .ret) (.r [.eqs 10 false [.s] false 5 (.k (.v (.c (.str ⟨#[99, 111, 109, 109, 105, 116]⟩)))), .m 9 10] (.cond 9 (.r [.build 11 [.int .i64 0, .int .i64 0] [(0, 1, (.i 3))], .o 2 2 11, .mv 3 .T] .ret) .skip)))))) (.r [.m 12 0, .c 13 47 [12, (.k (.v (.c (.str ⟨#[100, 111]⟩))))], .m 4 13] (.seq (.r [.m 14 4, .bin 15 .geq 14 (.i 0)] (.cond 15 (.r [.m 16 4, .build 17 [.int .i64 0, .int .i64 0] [(0, 1, (.i 2)), (1, 1, 16)], .o 2 2 17, .mv 3 .T] .ret) .skip)) (.r [.m 18 0, .c 19 47 [18, (.k (.v (.c (.str ⟨#[115, 119, 101, 101, 112]⟩))))], .m 4 19] (.r [.m 20 4, .build 21 [.int .i64 0, .int .i64 0] [(0, 1, (.i 4)), (1, 1, 20)], .m 22 4, .bin 23 .geq 22 (.i 0), .o 2 2 21, .m 3 23] .ret)))))⟩
def c_s_l20Pick : Fun := ⟨19, [], fun ts K => as1 ts fun t0 => arC pS t0 fun s => chk (s.size ≤ 1000000000) (K (.tup [.g ((pickS s).1.tc []), .c (.bool (pickS s).2)]) [])⟩
theorem run_s_l20Pick (s : ByteArray) (hpre : s.size ≤ 1000000000) : runK [c_s_l20Num] (0) [] pf_s_l20Pick [.v (.c (.str s))] fun r o => r = .tup [.g ((pickS s).1.tc []), .c (.bool (pickS s).2)] ∧ o = [] := by
  have n1 := no32_do
  have n2 := no32_sw
  conv => whnf
  repeat' (first | ((first | refine sel_i (fun h => ?_) (fun h => ?_) | refine chk_c ?_ ?_) <;> conv => whnf) | refine And.intro ?_ rfl | (refine And.intro ?_ ?_ <;> conv => whnf))
  all_goals (try simp only [beqB_iff, beqB_no, ge_iff_le, decide_eq_true_eq, decide_eq_false_iff_not] at *)
  all_goals first
    | (refine ⟨?_⟩; exact ⟨hpre, by decide, n1⟩)
    | (refine ⟨?_⟩; exact ⟨hpre, by decide, n2⟩)
    | (rw [pickS_1 (by assumption)]; rfl)
    | (rw [pickS_2 (by assumption) (by assumption)]; rfl)
    | (rw [pickS_3 (by assumption) (by assumption) (by assumption)]; rfl)
    | (rw [pickS_4 (by assumption) (by assumption) (by assumption)]; rfl)
    | trace_state
theorem ok_s_l20Pick : FunOk Tryz.prog c_s_l20Pick := funOk (eK ok_s_l20Num eN) mixd Tryz.func19 (pf := pf_s_l20Pick) (by kernel_rfl) fun ts K h => by
  obtain ⟨t0, rfl, q0⟩ := as1_out h
  obtain ⟨s, rfl, q1⟩ := arC_out rd_s q0
  obtain ⟨hpre, hk⟩ := chk_o q1
  exact ⟨_, _, hk, nb 1 Tryz.f19 (by kernel_rfl), _, run_s_l20Pick s hpre⟩

def pf_s_l20Asked : PF := ⟨[.t 4], .r [.box 2 0, .mv 4 (.k (.v (.c (.str ⟨#[]⟩))))] (.seq (.r [.m 6 1] (.blk 0 (.r [.eqs 8 false [.s] false 6 (.k (.v (.c (.str ⟨#[116, 114, 97, 112]⟩)))), .m 7 8] (.cond 7 (.r [.f 9 2 1, .f 10 9 0, .f 11 10 9, .l 12 1 11, .c 13 44 [12], .m 4 13] .ret) (.r [.eqs 15 false [.s] false 6 (.k (.v (.c (.str ⟨#[115, 97, 109, 101]⟩)))), .m 14 15] (.cond 14 (.seq (.seq (.rgd [] [.f 16 2 1, .f 17 16 0, .L 18 10 17, .f 19 2 0, .l 20 1 19, .f 21 2 20, .l 22 1 21, .c 23 46 [20, 22], .c 24 45 [18, 23]] (.ts [0, 1, 2, 3, 4, 5, 6] (.one 7 false (.one 8 true .d)))) (.cond 24 (.r [.mv 4 (.k (.v (.c (.str ⟨#[121, 101, 115]⟩))))] .ret) .skip)) (.r [.mv 4 (.k (.v (.c (.str ⟨#[110, 111]⟩))))] .ret)) .skip)))))) (.r [.m 25 1, .c 26 47 [25, (.k (.v (.c (.str ⟨#[114, 101, 103]⟩))))], .m 5 26] (.seq (.blk 1 (.r [.m 28 5, .bin 29 .lss 28 (.i 0), .m 27 29] (.cond 27 (.r [.mv 4 (.k (.v (.c (.str ⟨#[]⟩))))] .ret) (.r [.m 31 5, .bin 32 .gtr 31 (.i 7), .m 30 32] (.cond 30 (.r [.mv 4 (.k (.v (.c (.str ⟨#[110, 111, 110, 101]⟩))))] .ret) .skip))))) (.r [.f 33 2 1, .f 34 33 0, .f 35 34 0, .l 36 1 35, .m 37 5, .ia 38 .word 36 37, .L 39 6 38, .c 40 48 [39], .m 4 40] .ret))))⟩
def c_s_l20Asked : Fun := ⟨16, [], fun ts K => as2 ts fun t0 t1 => arG pDeskT t0 fun d => arC pS t1 fun s => chk (LDesk d 1048576 ∧ LenOk d.c.s ∧ s.size ≤ 1000000000) (K (.v (.c (.str (askD d s)))) [])⟩
theorem run_s_l20Asked (d : Desk) (s : ByteArray) (hpre : LDesk d 1048576 ∧ LenOk d.c.s ∧ s.size ≤ 1000000000) : runK [c_s_TrapText, c_s_Alike, c_s_l20Run, c_s_l20Num, c_s_WordText] (0) [] pf_s_l20Asked [tG (d.tc false []), .v (.c (.str s))] fun r o => r = .v (.c (.str (askD d s))) ∧ o = [] := by
  obtain ⟨l1, l2, l3⟩ := hpre
  have n1 := no32_rg
  have n2 := numS_bnd s regB
  have n3 := l2.1
  have m1 : d.list.length ≤ 2147483647 := by have := l1.1; omega
  have m2 : LState d.c.s 2147483647 := l1.2.1.1.mono (by decide)
  have m3 := l1.2.2
  have m4 := runAll_l d.list d.order
  conv => whnf
  repeat' (first | ((first | refine sel_i (fun h => ?_) (fun h => ?_) | refine chk_c ?_ ?_) <;> conv => whnf) | refine And.intro ?_ rfl | (refine And.intro ?_ ?_ <;> conv => whnf))
  all_goals (try simp only [etaKey, etaWord, etaMemory, etaState, beqB_iff, beqB_no, ge_iff_le, gt_iff_lt, decide_eq_true_eq, decide_eq_false_iff_not] at *)
  all_goals first
    | (refine ⟨?_⟩; exact ⟨l3, by decide, n1⟩)
    | (refine ⟨?_⟩; exact ⟨m1, m3⟩)
    | (refine ⟨?_⟩; exact ⟨m2, m4⟩)
    | (refine ⟨?_⟩; omega)
    | (rw [askD_t (by assumption)]; done)
    | (rw [askD_s (by assumption) (by assumption), if_pos (by assumption)]; done)
    | (rw [askD_s (by assumption) (by assumption), if_neg (by assumption)]; done)
    | (rw [askD_0 (by assumption) (by assumption) (by assumption)]; done)
    | (rw [askD_n (by assumption) (by assumption) (by assumption) (by assumption)]; done)
    | (rw [askD_w (by assumption) (by assumption) (by assumption) (by assumption)]; done)
    | trace_state
theorem ok_s_l20Asked : FunOk Tryz.prog c_s_l20Asked := funOk (eK ok_s_TrapText (eK ok_s_Alike (eK ok_s_l20Run (eK ok_s_l20Num (eK ok_s_WordText eN))))) mixd Tryz.func16 (pf := pf_s_l20Asked) (by kernel_rfl) fun ts K h => by
  obtain ⟨t0, t1, rfl, q0⟩ := as2_out h
  obtain ⟨d, rfl, q1⟩ := arG_out rd_desk q0
  obtain ⟨s, rfl, q2⟩ := arC_out rd_s q1
  obtain ⟨hpre, hk⟩ := chk_o q2
  exact ⟨_, _, hk, nb 2 Tryz.f16 (by kernel_rfl), _, run_s_l20Asked d s hpre⟩

/-! both sides of DeskLine say the same -/
theorem numS_ge {s w : ByteArray} (h : ¬ numS s w < 0) : (deskN (cutB s).2.1).2 = true ∧ (cutB s).1 = w ∧ numS s w = (deskN (cutB s).2.1).1 := by
  unfold numS at h ⊢
  split at h
  · rename_i q; exact ⟨q.1, q.2, if_pos q⟩
  · exact absurd (by decide) h
theorem numS_lt {s w : ByteArray} (h : numS s w < 0) (h2 : (deskN (cutB s).2.1).2 = true) : ¬ (cutB s).1 = w := by
  intro q
  have := deskN_bnd h2
  unfold numS at h
  rw [if_pos ⟨h2, q⟩] at h
  omega
theorem numS_w {s w : ByteArray} (h : ¬ numS s w < 0) : ¬ s = pullB ∧ ¬ s = commitB ∧ ¬ s = settleB ∧ ¬ s = trapB' ∧ ¬ s = sameB := by
  refine ⟨?_, ?_, ?_, ?_, ?_⟩ <;> intro q <;> subst q <;> exact h (by rw [numS_blank (by decide +kernel)]; decide)
theorem itoaB_ne (n : Int) (r : ByteArray) (h : 0 ≤ n) : ¬ itoaB n ++ r = ⟨#[]⟩ := by
  intro q
  have e : (itoaB n).size = 0 := by
    have := congrArg ByteArray.size q
    rw [ByteArray.size_append] at this
    have z : (⟨#[]⟩ : ByteArray).size = 0 := rfl
    omega
  obtain ⟨k, rfl⟩ := Int.eq_ofNat_of_zero_le h
  unfold itoaB at e
  rw [bsize] at e
  unfold Lib.itoa at e
  rw [if_neg (by omega), Int.toNat_natCast, Lib.decDigits_length] at e
  have := Lib.nDigits_pos k
  omega
theorem wordB_ne {w : Word} (h : wordOk w = true) : ¬ wordB w = ⟨#[]⟩ := by
  have hn := (wordOk_nn h).1
  cases e : w.is with
  | true => rw [wordB_is h e]; exact itoaB_ne _ _ hn
  | false =>
    rw [wordB_n h e]
    have := itoaB_ne w.n ⟨#[]⟩ hn
    rwa [show itoaB w.n ++ ⟨#[]⟩ = itoaB w.n from ByteArray.append_empty] at this
theorem trapB_ne {n : Int} (h : inR n 0 5 = true) : ¬ trapB n = ⟨#[]⟩ := by
  rw [trapB_yes h]
  have h2 := inR_t.1 h
  have key : ∀ k : Fin 6, ¬ trapL.getD k.1 (FT.zero .str) = (⟨#[]⟩ : ByteArray) := by decide +kernel
  exact key ⟨n.toNat, by omega⟩
theorem coreOk_reg {c : Core} (h : coreOk c = true) {n : Int} (h0 : 0 ≤ n) (h1 : n ≤ 7) : wordOk (c.s.regs.getD n.toNat (FT.zero .word)) = true := by
  obtain ⟨h2, h3, _⟩ := stateOk_iff.1 (coreOk_iff.1 h).1
  have hl : n.toNat < c.s.regs.length := by omega
  rw [List.getD_eq_getElem?_getD, List.getElem?_eq_getElem hl]
  exact h3 _ (List.getElem_mem hl)
theorem line_ask {d : Desk} {s : ByteArray} (h : ¬ askD d s = ⟨#[]⟩) : lineD d s = (d, askD d s) := by
  by_cases h1 : s = trapB'
  · rw [askD_t h1]; subst h1; rw [lineD_4 (by decide) (by decide) (by decide) rfl]
  by_cases h2 : s = sameB
  · rw [askD_s h1 h2]; subst h2; rw [lineD_5 (by decide) (by decide) (by decide) (by decide) rfl]
  by_cases h3 : numS s regB < 0
  · exact absurd (askD_0 h1 h2 h3) h
  obtain ⟨q1, q2, q3, q4, q5⟩ := numS_w h3
  obtain ⟨e1, e2, e3⟩ := numS_ge h3
  rw [lineD_7 q1 q2 q3 q4 q5 e1]
  by_cases h4 : 7 < numS s regB
  · rw [askD_n h1 h2 h3 h4, e2, numD_ro (by decide) (by decide) rfl (by omega)]
  · rw [askD_w h1 h2 h3 h4, e2, numD_rg (by decide) (by decide) rfl (by omega), e3]
theorem ask_no {d : Desk} {s : ByteArray} (hc : coreOk d.c = true) (h : askD d s = ⟨#[]⟩) : ¬ s = trapB' ∧ ¬ s = sameB ∧ numS s regB < 0 := by
  by_cases h1 : s = trapB'
  · rw [askD_t h1] at h
    exact absurd h (trapB_ne (inR_t.2 (stateOk_iff.1 (coreOk_iff.1 hc).1).2.2.2.2))
  by_cases h2 : s = sameB
  · rw [askD_s h1 h2] at h
    split at h
    · exact absurd h (by decide)
    · exact absurd h (by decide)
  refine ⟨h1, h2, ?_⟩
  by_cases h3 : numS s regB < 0
  · exact h3
  exfalso
  by_cases h4 : 7 < numS s regB
  · rw [askD_n h1 h2 h3 h4] at h; exact absurd h (by decide)
  · rw [askD_w h1 h2 h3 h4] at h
    exact wordB_ne (coreOk_reg hc (by omega) (by omega)) h
theorem line_what {d : Desk} {s : ByteArray} (hc : coreOk d.c = true) (h : askD d s = ⟨#[]⟩) (h1 : ¬ s = settleB) (h2 : (pickS s).2 = false) : lineD d s = (d, whatB) := by
  obtain ⟨q1, q2, q3⟩ := ask_no hc h
  by_cases h3 : s = pullB
  · rw [pickS_1 h3] at h2; cases h2
  by_cases h4 : s = commitB
  · rw [pickS_2 h3 h4] at h2; cases h2
  by_cases h5 : 0 ≤ numS s doB
  · rw [pickS_3 h3 h4 h5] at h2; cases h2
  rw [pickS_4 h3 h4 h5] at h2
  have h6 := of_decide_eq_false h2
  cases e : (deskN (cutB s).2.1).2 with
  | false => rw [lineD_6 h3 h4 h1 q1 q2 e]
  | true => rw [lineD_7 h3 h4 h1 q1 q2 e, numD_x (numS_lt (by omega) e) (numS_lt (by omega) e) (numS_lt q3 e)]
theorem line_pick {d : Desk} {s : ByteArray} (hc : coreOk d.c = true) (h : askD d s = ⟨#[]⟩) (h1 : ¬ s = settleB) (h2 : (pickS s).2 = true) : lineD d s = pickD d (pickS s).1 := by
  obtain ⟨q1, q2, q3⟩ := ask_no hc h
  by_cases h3 : s = pullB
  · rw [pickS_1 h3, lineD_1 h3]
  by_cases h4 : s = commitB
  · rw [pickS_2 h3 h4, lineD_2 h3 h4]
  by_cases h5 : 0 ≤ numS s doB
  · obtain ⟨e1, e2, e3⟩ := numS_ge (s := s) (w := doB) (by omega)
    rw [pickS_3 h3 h4 h5, lineD_7 h3 h4 h1 q1 q2 e1, numD_do e2, e3]
  rw [pickS_4 h3 h4 h5] at h2 ⊢
  have h6 := of_decide_eq_true h2
  obtain ⟨e1, e2, e3⟩ := numS_ge (s := s) (w := sweepB) (by omega)
  rw [lineD_7 h3 h4 h1 q1 q2 e1, numD_sw (by rw [e2]; decide) e2, e3]
theorem noted_2 (p : Pick) : (notedL p).2 = (notedC p).2 := by
  unfold notedL notedC
  by_cases h3 : p.kind = 3
  · rw [if_neg (by omega), if_pos h3, decide_eq_true h3]
  · by_cases h4 : p.kind = 4
    · rw [if_pos h4, if_neg h3, if_pos h4]
    · rw [if_neg h4, if_neg h3, if_neg h4, decide_eq_false h3]
theorem noted_1 {p : Pick} (h : (notedL p).2 = true) : (notedL p).1 = (notedC p).1 := by
  unfold notedL notedC at *
  by_cases h3 : p.kind = 3
  · rw [if_neg (by omega), if_pos h3]
  · by_cases h4 : p.kind = 4
    · rw [if_pos h4, if_neg h3, if_pos h4]
    · rw [if_neg h4, decide_eq_false h3] at h; cases h
theorem line_add {d : Desk} {s : ByteArray} (hc : coreOk d.c = true) (h : askD d s = ⟨#[]⟩) (h1 : ¬ s = settleB) (h2 : (pickS s).2 = true) (h3 : (pickC d.list d.c (pickS s).1).2 = true) (h4 : (notedL (pickS s).1).2 = true) :
    lineD d s = (⟨d.list, (pickC d.list d.c (pickS s).1).1, d.order ++ [(notedL (pickS s).1).1]⟩, okB) := by
  rw [line_pick hc h h1 h2, pickD_add h3 (by rw [← noted_2]; exact h4), noted_1 h4]
theorem line_ok {d : Desk} {s : ByteArray} (hc : coreOk d.c = true) (h : askD d s = ⟨#[]⟩) (h1 : ¬ s = settleB) (h2 : (pickS s).2 = true) (h3 : (pickC d.list d.c (pickS s).1).2 = true) (h4 : (notedL (pickS s).1).2 = false) :
    lineD d s = (⟨d.list, (pickC d.list d.c (pickS s).1).1, d.order⟩, okB) := by
  rw [line_pick hc h h1 h2, pickD_ok h3 (by rw [← noted_2]; exact h4)]
theorem line_no {d : Desk} {s : ByteArray} (hc : coreOk d.c = true) (h : askD d s = ⟨#[]⟩) (h1 : ¬ s = settleB) (h2 : (pickS s).2 = true) (h3 : (pickC d.list d.c (pickS s).1).2 = false) :
    lineD d s = (⟨d.list, (pickC d.list d.c (pickS s).1).1, d.order⟩, noB) := by
  rw [line_pick hc h h1 h2, pickD_no h3]
theorem line_settle {d : Desk} {s : ByteArray} (h : s = settleB) : lineD d s = (⟨d.list, (settle d.c).1, d.order ++ List.replicate (settle d.c).2.toNat (-1)⟩, itoaB (settle d.c).2) :=
  lineD_3 (by rw [h]; decide) (by rw [h]; decide) h

def zDC : List Cell := .nils .inst :: (zSC ++ [.nils .entry, .int .i64 0, .ff, .int .i64 0, .int .i64 0, .int .i64 0, .int .i64 0, .ff, .nils (.int .i64), .nils (.int .i64)])

def lb_s_DeskLine_0 : PC := .seq (.r [.m 51 10, .m 52 9, .bin 53 .lss 51 52] (.cond 53 .skip (.exit 0))) (.seq (.blk 1 (.reg [.f 56 6 20, .l 57 1 56, .bs 58 (.int .i64) [(.i (-1))], .app 59 (.int .i64) 57 58, .f 60 6 20, .o 1 60 59])) (.reg [.m 54 10, .bin 55 .add 54 (.i 1), .m 10 55]))
def pf_s_DeskLine : PF := ⟨[.c 4 true 21, .t 5], .r [.box 2 0, .alloc 4 zcD, .mv 5 (.k (.v (.c (.str ⟨#[]⟩))))] (.r [.L 17 21 2, .c 18 14 [17], .alloc 6 zcD, .o 21 6 18] (.seq (.r [.f 19 2 1, .L 20 19 19, .c 21 15 [20], .bnot 22 21] (.cond 22 (.r [.L 23 21 6, .o 21 4 23, .mv 5 (.k (.v (.c (.str ⟨#[98, 97, 100]⟩))))] .ret) .skip)) (.seq (.r [.m 24 1, .eqs 25 false [.s] false 24 (.k (.v (.c (.str ⟨#[]⟩)))), .m 26 25, .n 26 27 (.mv 27 1), .n 26 28 (.sidx 28 27 (.i 0)), .n 26 29 (.bin 29 .eql 28 (.k (.v (.c (.int .u8 59))))), .pick 30 26 .T 29] (.cond 30 (.r [.L 31 21 6, .o 21 4 31, .mv 5 (.k (.v (.c (.str ⟨#[]⟩))))] .ret) .skip)) (.r [.L 32 21 2, .m 33 1, .c 34 16 [32, 33], .m 7 34] (.seq (.r [.m 35 7, .eqs 36 false [.s] true 35 (.k (.v (.c (.str ⟨#[]⟩))))] (.cond 36 (.r [.L 37 21 6, .m 38 7, .o 21 4 37, .m 5 38] .ret) .skip)) (.seq (.r [.m 39 1, .eqs 40 false [.s] false 39 (.k (.v (.c (.str ⟨#[115, 101, 116, 116, 108, 101]⟩))))] (.cond 40 (.r [.f 42 2 0, .l 43 1 42, .f 44 2 1, .L 45 19 44, .c 46 17 [43, 45], .m 41 46, .ext 47 41 0, .ext 48 41 1, .alloc 8 zcC, .o 19 8 47, .m 9 48] (.r [.L 49 19 8, .f 50 6 1, .o 19 50 49] (.seq (.r [.mv 10 (.i 0)] (.blk 0 (.loop [4, 6, 9, 10] lb_s_DeskLine_0))) (.seq (.rgd [] [.L 61 21 6, .m 62 9, .c 63 18 [62], .o 21 4 61, .m 5 63] (.ts [0, 1] (.one 2 false (.one 3 true (.tk 4 .d))))) .ret)))) .skip)) (.r [.m 65 1, .c 66 19 [65], .m 64 66, .ext 67 64 0, .ext 68 64 1, .alloc 11 [.int .i64 0, .int .i64 0], .o 2 11 67, .m 12 68] (.seq (.r [.m 69 12, .bnot 70 69] (.cond 70 (.r [.L 71 21 6, .o 21 4 71, .mv 5 (.k (.v (.c (.str ⟨#[119, 104, 97, 116]⟩))))] .ret) .skip)) (.r [.f 73 2 0, .l 74 1 73, .f 75 2 1, .L 76 19 75, .L 77 2 11, .c 78 20 [74, 76, 77], .m 72 78, .ext 79 72 0, .ext 80 72 1, .alloc 13 zcC, .o 19 13 79, .m 14 80] (.r [.L 81 19 13, .f 82 6 1, .o 19 82 81] (.r [.L 84 2 11, .c 85 21 [84], .m 83 85, .ext 86 83 0, .ext 87 83 1, .m 15 86, .m 16 87] (.seq (.r [.m 88 14, .m 89 88, .y 89 90 (.mv 90 16), .pick 91 89 90 .F] (.cond 91 (.reg [.f 92 6 20, .l 93 1 92, .m 94 15, .bs 95 (.int .i64) [94], .app 96 (.int .i64) 93 95, .f 97 6 20, .o 1 97 96]) .skip)) (.seq (.r [.m 98 14] (.cond 98 (.r [.L 99 21 6, .o 21 4 99, .mv 5 (.k (.v (.c (.str ⟨#[111, 107]⟩))))] .ret) .skip)) (.r [.L 100 21 6, .o 21 4 100, .mv 5 (.k (.v (.c (.str ⟨#[110, 111]⟩))))] .ret))))))))))))))⟩
def c_s_DeskLine : Fun := ⟨5, [], fun ts K => as2 ts fun t0 t1 => arG pDeskT t0 fun d => arC pS t1 fun s => chk (LDesk d 1048576 ∧ s.size ≤ 1000000000) (K (.tup [.g ((lineF d s).1.tc true []), .c (.str (lineF d s).2)]) [])⟩
theorem run_s_DeskLine (FU : Nat) (d : Desk) (s : ByteArray) (hpre : LDesk d 1048576 ∧ s.size ≤ 1000000000) : runK [c_s_l20Copy, c_s_CoreOk, c_s_l20Asked, c_s_Settle, c_s_l7Digits, c_s_l20Pick, c_s_CorePick, c_s_l16Number] (700 + FU) [] pf_s_DeskLine [tG (d.tc false []), .v (.c (.str s))] fun r o => r = .tup [.g ((lineF d s).1.tc true []), .c (.str (lineF d s).2)] ∧ o = [] := by
  obtain ⟨l1, l2⟩ := hpre
  have l3 : LDesk d 2147483647 := ⟨by have := l1.1; omega, l1.2.1.mono (by decide), by have := l1.2.2; omega⟩
  have l4 := l3.2.1
  conv => whnf
  repeat' (first | ((first | refine sel_i (fun h => ?_) (fun h => ?_) | refine chk_c ?_ ?_) <;> conv => whnf) | refine And.intro ?_ rfl | (refine And.intro ?_ ?_ <;> conv => whnf))
  all_goals (try simp only [etaKey, etaWord, etaMemory, etaState, etaCore, etaDesk, etaPick, beqB_iff, beqB_no, beqB_nyes, beqB_nno, ge_iff_le, decide_eq_true_eq, decide_eq_false_iff_not, Bool.not_eq_true', Bool.not_eq_false', beq_iff_eq, beq_eq_false_iff_ne, ne_eq] at *)
  all_goals first
    | trivial
    | (refine ⟨?_⟩; first | exact l3 | exact l4 | exact l2)
    | (refine ⟨?_⟩; exact ⟨l1, (coreOk_len (by assumption)).1, l2⟩)
    | (refine ⟨?_⟩; exact ⟨l3.1, l4⟩)
    | (refine ⟨?_⟩; have := size_pos (by assumption); omega)
    | (refine ⟨?_⟩; have := l1.2.2; simp only [List.length_cons, List.length_nil]; omega)
    | (rw [lineF_b (by assumption)]; rfl)
    | (rw [lineF_e (by assumption) (.inl (by assumption))]; rfl)
    | (rw [lineF_e (by assumption) (.inr (by assumption))]; rfl)
    | (exfalso
       have q1 : (pickC d.list d.c (pickS s).1).2 = true := by assumption
       have q2 : (pickC d.list d.c (pickS s).1).2 = false := by assumption
       rw [q1] at q2
       cases q2)
    | (rw [lineF_l (by assumption) (by assumption) (by assumption), line_ask (by assumption)]; rfl)
    | (rw [lineF_l (by assumption) (by assumption) (by assumption), line_what (by assumption) (by assumption) (by assumption) (by assumption)]; rfl)
    | (rw [lineF_l (by assumption) (by assumption) (by assumption), line_add (by assumption) (by assumption) (by assumption) (by assumption) (by assumption) (by assumption)]; rfl)
    | (rw [lineF_l (by assumption) (by assumption) (by assumption), line_ok (by assumption) (by assumption) (by assumption) (by assumption) (by assumption) (by assumption)]; rfl)
    | (rw [lineF_l (by assumption) (by assumption) (by assumption), line_no (by assumption) (by assumption) (by assumption) (by assumption) (by assumption)]; rfl)
    | skip
  have hs : s = settleB := by assumption
  rw [lineF_l (by assumption) (by assumption) (by assumption), line_settle hs]
  have l7 := settle_cnt (c := d.c)
  have l8 := l1.2.2
  generalize settle d.c = r at *
  obtain ⟨C, m⟩ := r
  obtain ⟨n, rfl⟩ := Int.eq_ofNat_of_zero_le l7.1
  dsimp only at l7 ⊢
  rw [Int.toNat_natCast]
  refine loop (α := Nat × List Int) (fun q => ⟨[(4, .v (.c (.ptr 0 0))), (6, .v (.c (.ptr 1 0))), (9, .v (.c (.int .i64 (n : Int)))), (10, .v (.c (.int .i64 (q.1 : Int))))],
        [(8, some (.flat true (.int .i64) none q.2)), (7, some (.flat true (.int .i64) none C.guesses)), (6, some (.flat true .entry none C.rob)), (5, some (.flat true .bool none C.s.mem.gone)), (4, some (.flat true .word none C.s.mem.words)), (3, some (.flat true .word none C.s.regs)), (2, some (.flat true .inst none d.list)), (1, some (.box true (dkC ⟨d.list, C, []⟩ 2))), (0, some (.box true zDC))], nums.tail.tail.tail.tail.tail.tail.tail.tail.tail, [], false, []⟩)
    (fun q => q.1 ≤ n ∧ q.2 = d.order ++ List.replicate q.1 (-1)) (fun q => n - q.1) (fun q R hI hR => ?_) (0, d.order) _ ⟨Nat.zero_le _, by simp⟩ (by show n - 0 < 700 + FU; omega)
  obtain ⟨k, o⟩ := q
  obtain ⟨hk, ho⟩ := hI
  dsimp only at hk ho hR ⊢
  have hol : o.length = d.order.length + k := by rw [ho]; simp
  have w1 : IntKind.i64.wrap ((k : Int) + 1) = ((k + 1 : Nat) : Int) := by rw [wrap_id (by omega) (by omega)]; rfl
  conv => whnf
  repeat' (first | ((first | refine sel_i (fun h => ?_) (fun h => ?_) | refine chk_c ?_ ?_) <;> conv => whnf) | refine And.intro ?_ rfl | (refine And.intro ?_ ?_ <;> conv => whnf))
  all_goals (try simp only [w1, decide_eq_true_eq, decide_eq_false_iff_not] at *)
  all_goals first
    | (refine ⟨?_⟩; simp only [List.length_cons, List.length_nil]; omega)
    | (refine ⟨?_⟩; omega)
    | (exact hR (k + 1, o ++ [-1]) ⟨by dsimp only; omega, by dsimp only; rw [ho, List.append_assoc, List.replicate_succ']⟩ (by dsimp only; omega))
    | (rw [show n = k by omega, ← ho]; rfl)
    | trace_state
theorem ok_s_DeskLine : FunOk Tryz.prog c_s_DeskLine := funOk (eK ok_s_l20Copy (eK ok_s_CoreOk (eK ok_s_l20Asked (eK ok_s_Settle (eK ok_s_l7Digits (eK ok_s_l20Pick (eK ok_s_CorePick (eK ok_s_l16Number eN)))))))) mixd Tryz.func5 (pf := pf_s_DeskLine) (by kernel_rfl) fun ts K h => by
  obtain ⟨t0, t1, rfl, q0⟩ := as2_out h
  obtain ⟨d, rfl, q1⟩ := arG_out rd_desk q0
  obtain ⟨s, rfl, q2⟩ := arC_out rd_s q1
  obtain ⟨hpre, hk⟩ := chk_o q2
  exact ⟨_, _, hk, nb 2 Tryz.f5 (by kernel_rfl), _, run_s_DeskLine 0 d s hpre⟩

theorem pickD_l {d : Desk} {p : Pick} (h : LDesk d 1048576) : LDesk (pickD d p).1 2147483647 := by
  obtain ⟨h1, h2, h3⟩ := h
  unfold pickD
  refine ⟨by dsimp only; omega, pickC_l, ?_⟩
  dsimp only
  split
  · simp only [List.length_append, List.length_cons, List.length_nil]; omega
  · omega
theorem numD_l {d : Desk} {w : ByteArray} {n : Int} (h : LDesk d 1048576) (h0 : LDesk d 2147483647) : LDesk (numD d w n).1 2147483647 := by
  unfold numD
  split
  · exact pickD_l h
  · split
    · exact pickD_l h
    · split
      · exact h0
      · exact h0
theorem lineF_len {d : Desk} {s : ByteArray} (h : LDesk d 1048576) (h0 : LDesk d 2147483647) : LDesk (lineF d s).1 2147483647 := by
  unfold lineF
  split
  · exact h0
  · split
    · exact h0
    · unfold lineD
      split
      · exact pickD_l h
      · split
        · exact pickD_l h
        · split
          · have h7 := settle_cnt (c := d.c)
            have h8 := h.2.2
            exact ⟨h0.1, (settle_sz (c := d.c)).1, by simp only [List.length_append, List.length_replicate]; omega⟩
          · split
            · exact h0
            · split
              · exact h0
              · split
                · exact h0
                · exact numD_l h h0
theorem LDesk.mono {d : Desk} {n m : Nat} (h : LDesk d n) (k : n ≤ m) : LDesk d m := ⟨Nat.le_trans h.1 k, h.2.1.mono k, Nat.le_trans h.2.2 k⟩
theorem LDesk.sz {d : Desk} (h : LDesk d 2147483647) : SzDesk d := ⟨h.1, ⟨⟨h.2.1.1.1, h.2.1.1.2.1, h.2.1.1.2.2⟩, h.2.1.2.1, h.2.1.2.2⟩, h.2.2⟩
theorem SzDesk.l {d : Desk} (h : SzDesk d) : LDesk d 2147483647 := ⟨h.1, ⟨⟨h.2.1.1.1, h.2.1.1.2.1, h.2.1.1.2.2⟩, h.2.1.2.1, h.2.1.2.2⟩, h.2.2⟩
theorem markDesk_len (d : Desk) (k : Int) : (markDesk d k).list.length = d.list.length ∧ (markDesk d k).c.s.regs.length = d.c.s.regs.length ∧ (markDesk d k).c.s.mem.words.length = d.c.s.mem.words.length ∧ (markDesk d k).c.s.mem.gone.length = d.c.s.mem.gone.length ∧ (markDesk d k).c.rob.length = d.c.rob.length ∧ (markDesk d k).c.guesses.length = d.c.guesses.length ∧ (markDesk d k).order.length = d.order.length := by
  simp [markDesk, markCore, markState, markMemory, mkInsS_length, mkWordS_length, mkBoolS_length, mkEntryS_length, mkIntS_length]
theorem decTrueN : ¬ (!decide True) = true := by decide
theorem etaMDesk (m : Desk) (k : Int) : (⟨(markDesk m k).list, ⟨⟨(markDesk m k).c.s.regs, m.c.s.pc, (markDesk m k).c.s.mem, m.c.s.trap⟩, (markDesk m k).c.rob, m.c.next, m.c.stop, (markDesk m k).c.guesses⟩, (markDesk m k).order⟩ : Desk) = markDesk m k := rfl
end Go.Pi
