/- Contracts of functions, each out of its run by PI. No conditions. -/
import Derived.Test.YtbenlebnogedlaaGreatC6
namespace Go.Pi
open Go.Proofs
set_option linter.unusedVariables false
set_option linter.unusedSimpArgs false
set_option maxRecDepth 100000
attribute [local irreducible] iterN
def pf_slices_Delete_Entry : PF := ⟨[.t 6], .seq (.reg [.s (.mv 6 (.k (.v (.c (.nils .entry)))))]) (.seq (.reg [.s (.mv 8 (.t 0)), .s (.mv 9 (.t 1)), .s (.mv 10 (.t 2)), .s (.mv 11 (.t 0)), .s (.len 12 false (.t 11)), .s (.slcu 13 .entry (.t 8) (.t 9) (.t 10) (.t 12))]) (.seq (.seq (.reg [.s (.mv 14 (.t 1)), .s (.mv 15 (.t 2)), .s (.bin 16 .eql (.t 14) (.t 15))]) (.cond (.t 16) (.seq (.reg [.s (.mv 17 (.t 0)), .s (.mv 6 (.t 17))]) (.ret)) (.skip))) (.seq (.reg [.s (.mv 18 (.t 0)), .s (.len 19 false (.t 18)), .s (.mv 7 (.t 19))]) (.seq (.rgd [] [.s (.mv 20 (.t 0)), .s (.mv 21 (.t 1)), .s (.slc 22 .entry (.t 20) none (some (.t 21))), .s (.mv 23 (.t 0)), .s (.mv 24 (.t 2)), .s (.slc 25 .entry (.t 23) (some (.t 24)) none), .s (.appi 26 .entry (.t 22) (.t 25)), .s (.mv 0 (.t 26))] (.tk 0 (.tk 1 (.tk 3 (.tk 4 (.alt 2 false (.one 5 true (.one 6 true (.tk 7 (.done (some [0, 7]))))) (.alt 5 false (.one 2 true (.one 6 true (.tk 7 (.done (some [0, 7]))))) (.nil)))))))) (.seq (.reg [.s (.mv 27 (.t 0)), .s (.mv 28 (.t 0)), .s (.len 29 false (.t 28)), .s (.mv 30 (.t 7)), .s (.slcb 31 .entry (.t 27) (.t 29) (.t 30)), .s (.clr .entry (.t 31))]) (.seq (.reg [.s (.mv 32 (.t 0)), .s (.mv 6 (.t 32))]) (.ret)))))))⟩
def c_slices_Delete_Entry : Fun := ⟨129, [true, false, false], fun ts K => as3 ts fun t0 t1 t2 => arC (pO .entry) t0 fun s => arC (pI .i64) t1 fun i => arC (pI .i64) t2 fun j => chk (0 ≤ i ∧ i < j ∧ j ≤ s.length ∧ s.length ≤ 2147483647) (K (tL true .entry (s.take i.toNat ++ s.drop j.toNat)) ([.v (.c .unk)]))⟩
theorem run_slices_Delete_Entry (s : List (FT.Ty .entry)) (i : Int) (j : Int) (hpre : 0 ≤ i ∧ i < j ∧ j ≤ s.length ∧ s.length ≤ 2147483647) : runK [] (0) [true, false, false] pf_slices_Delete_Entry [tL true .entry s, tI .i64 i, tI .i64 j] fun r o => r = tL true .entry (s.take i.toNat ++ s.drop j.toNat) ∧ o = [.v (.c .unk)] := by
  obtain ⟨h0, hij, hj, hs⟩ := hpre
  have hD : win s (0 + j.toNat) ((s.length : Int) - j).toNat = s.drop j.toNat := by unfold win; rw [Nat.zero_add, List.take_of_length_le (by rw [List.length_drop]; omega)]
  have hDl : (s.drop j.toNat).length = s.length - j.toNat := List.length_drop
  have hov : (over s (0 + i.toNat) (s.drop j.toNat)).length = s.length := by simp [over]; omega
  conv => whnf
  repeat' (first | (refine sel_i (fun h => ?_) (fun h => ?_) <;> conv => whnf) | (refine chk_c ?_ ?_ <;> conv => whnf) | (refine And.intro ?_ rfl) | (refine And.intro ?_ ?_ <;> conv => whnf))
  all_goals (try simp only [hD, hov, hDl] at *)
  all_goals first
    | trivial
    | (refine ⟨?_⟩; omega)
    | (refine ⟨?_⟩; refine ⟨by omega, by omega, by omega, by omega⟩)
    | (exfalso; simp at *; omega)
    | skip
  rw [Nat.zero_add, Nat.zero_add, Int.toNat_natCast, win_over _ _ _ _ _ (by omega) (by rw [List.length_drop])]
theorem ok_slices_Delete_Entry : FunOk Tryz.prog c_slices_Delete_Entry := funOk (E := []) (envOk_nil) mixd Tryz.func129 (pf := pf_slices_Delete_Entry) (by kernel_rfl) fun ts K h => by
  obtain ⟨t0, t1, t2, e0, h⟩ := as3_out h
  subst e0
  obtain ⟨s, e1, hq⟩ := arC_out (rd_o .entry) h
  clear h
  subst e1
  have h := hq
  clear hq
  obtain ⟨i, e1, hq⟩ := arC_out (rd_int .i64) h
  clear h
  subst e1
  have h := hq
  clear hq
  obtain ⟨j, e1, hq⟩ := arC_out (rd_int .i64) h
  clear h
  subst e1
  have h := hq
  clear hq
  obtain ⟨hpre, h⟩ := chk_o h
  exact ⟨_, _, h, Nat.le_of_ble_eq_true (show Nat.ble 3 Tryz.f129.ntmps = true by kernel_rfl), _, run_slices_Delete_Entry s i j hpre⟩

def commitC (c : Core) : Core × Bool :=
  if coreOk c = false then (zCore, false) else
  if c.rob.length = 0 ∨ (atE c 0).done = false ∨ c.s.trap ≠ 0 then (c, false) else
  if (atE c 0).e.trap ≠ 0 then (⟨⟨c.s.regs, (atE c 0).pc, c.s.mem, (atE c 0).e.trap⟩, [], c.next, true, c.guesses⟩, true) else
  if 0 ≤ (atE c 0).e.drop then (⟨putE c.s (atE c 0).e, [], (atE c 0).e.next, false, learnG c.guesses (atE c 0).pc (atE c 0).e.next⟩, true) else
  (⟨putE c.s (atE c 0).e, c.rob.drop 1, c.next, c.stop, learnG c.guesses (atE c 0).pc (atE c 0).e.next⟩, true)
theorem commitC_no {c : Core} (h : coreOk c = false) : commitC c = (zCore, false) := if_pos h
theorem commitC_nr {c : Core} (h : coreOk c = true) (h2 : c.rob.length = 0 ∨ (atE c 0).done = false ∨ c.s.trap ≠ 0) : commitC c = (c, false) := by
  unfold commitC; rw [if_neg (by rw [h]; decide), if_pos h2]
theorem commitC_t {c : Core} (h : coreOk c = true) (h2 : ¬ (c.rob.length = 0 ∨ (atE c 0).done = false ∨ c.s.trap ≠ 0)) (h3 : ¬ (atE c 0).e.trap = 0) : commitC c = (⟨⟨c.s.regs, (atE c 0).pc, c.s.mem, (atE c 0).e.trap⟩, [], c.next, true, c.guesses⟩, true) := by
  unfold commitC; rw [if_neg (by rw [h]; decide), if_neg h2, if_pos h3]
theorem commitC_d {c : Core} (h : coreOk c = true) (h2 : ¬ (c.rob.length = 0 ∨ (atE c 0).done = false ∨ c.s.trap ≠ 0)) (h3 : (atE c 0).e.trap = 0) (h4 : 0 ≤ (atE c 0).e.drop) : commitC c = (⟨putE c.s (atE c 0).e, [], (atE c 0).e.next, false, learnG c.guesses (atE c 0).pc (atE c 0).e.next⟩, true) := by
  unfold commitC; rw [if_neg (by rw [h]; decide), if_neg h2, if_neg (fun q => q h3), if_pos h4]
theorem commitC_0 {c : Core} (h : coreOk c = true) (h2 : ¬ (c.rob.length = 0 ∨ (atE c 0).done = false ∨ c.s.trap ≠ 0)) (h3 : (atE c 0).e.trap = 0) (h4 : ¬ 0 ≤ (atE c 0).e.drop) : commitC c = (⟨putE c.s (atE c 0).e, c.rob.drop 1, c.next, c.stop, learnG c.guesses (atE c 0).pc (atE c 0).e.next⟩, true) := by
  unfold commitC; rw [if_neg (by rw [h]; decide), if_neg h2, if_neg (fun q => q h3), if_neg h4]
theorem ncm {c : Core} (h1 : ¬ c.rob.length = 0) (h2 : (atE c 0).done = true) (h3 : c.s.trap = 0) : ¬ (c.rob.length = 0 ∨ (atE c 0).done = false ∨ c.s.trap ≠ 0) := by
  rintro (q | q | q)
  · exact h1 q
  · rw [h2] at q; cases q
  · exact q h3

theorem eqLen0 (n : Nat) : ((n : Int) == 0) = decide (n = 0) := eqLen n 0

def c_impl_State_put_v_Core : Fun := ⟨58, [true, false], fun ts K => as2 ts fun t0 t1 => arQ pCoreO t0 fun c => arG pEffT t1 fun e => chk (LenOk c.s) (K (.tup []) ([.v (.ptr true 0 ((⟨putE c.s e, c.rob, c.next, c.stop, c.guesses⟩ : Core).tc true []))]))⟩
theorem run_impl_State_put_v_Core (c : Core) (e : Eff) (hpre : LenOk c.s) : runK [c_impl_in] (0) [true, false] pf_impl_State_put [.v (.ptr true 0 (c.tc true [])), tG (e.tc [])] fun r o => r = .tup [] ∧ o = [.v (.ptr true 0 ((⟨putE c.s e, c.rob, c.next, c.stop, c.guesses⟩ : Core).tc true []))] := by
  obtain ⟨l2, l3, l4⟩ := hpre
  conv => whnf
  repeat' (first | (refine sel_i (fun h => ?_) (fun h => ?_) <;> conv => whnf) | (refine chk_c ?_ ?_ <;> conv => whnf) | (refine And.intro ?_ rfl) | (refine And.intro ?_ ?_ <;> conv => whnf))
  all_goals (try simp only [etaKey, etaWord, etaInst, etaEff, etaMemory, bne_iff_ne, ne_eq, bne_eq_false_iff_eq, beq_iff_eq, beq_eq_false_iff_ne, Bool.not_eq_true', Bool.not_eq_false', decide_eq_true_eq, decide_eq_false_iff_not] at *)
  all_goals first
    | (refine ⟨?_⟩; simp only [inR_t, inR_f] at *; omega)
    | (unfold putE; simp only [*, if_true, if_false, Bool.false_eq_true]; first | done | rfl)
    | trace_state
theorem ok_impl_State_put_v_Core : FunOk Tryz.prog c_impl_State_put_v_Core := funOk (E := [c_impl_in]) (envOk_cons ok_impl_in (envOk_nil)) mixd Tryz.func58 (pf := pf_impl_State_put) (by kernel_rfl) fun ts K h => by
  obtain ⟨t0, t1, e0, h⟩ := as2_out h
  subst e0
  obtain ⟨c, e1, hq⟩ := arQ_out rd_coreO h
  clear h
  subst e1
  have h := hq
  clear hq
  obtain ⟨e, e1, hq⟩ := arG_out rd_eff h
  clear h
  subst e1
  have h := hq
  clear hq
  obtain ⟨hpre, h⟩ := chk_o h
  exact ⟨_, _, h, Nat.le_of_ble_eq_true (show Nat.ble 2 Tryz.f58.ntmps = true by kernel_rfl), _, run_impl_State_put_v_Core c e hpre⟩

def pf_impl_Commit : PF := ⟨[.c 2 true 19, .t 3], .seq (.reg [.s (.box 1 (.t 0)), .s (.alloc 2 [.nils .word, .int .i64 0, .ff, .int .i64 0, .int .i64 0, .int .i64 0, .int .i64 0, .nils .word, .nils .bool, .int .i64 0, .nils .entry, .int .i64 0, .ff, .int .i64 0, .int .i64 0, .int .i64 0, .int .i64 0, .ff, .nils (.int .i64)]), .s (.mv 3 (.k (.v (.c .ff))))]) (.seq (.seq (.reg [.s (.load 6 true 19 (.t 1)), .s (.call (some 7) 70 [(.t 6)]), .s (.bnot 8 (.t 7))]) (.cond (.t 8) (.seq (.reg [.s (.build 9 [.nils .word, .int .i64 0, .ff, .int .i64 0, .int .i64 0, .int .i64 0, .int .i64 0, .nils .word, .nils .bool, .int .i64 0, .nils .entry, .int .i64 0, .ff, .int .i64 0, .int .i64 0, .int .i64 0, .int .i64 0, .ff, .nils (.int .i64)] []), .s (.store 19 (.t 2) (.t 9)), .s (.mv 3 (.k (.v (.c .ff))))]) (.ret)) (.skip))) (.seq (.reg [.s (.load 10 true 19 (.t 1)), .s (.call (some 11) 71 [(.t 10)]), .s (.alloc 4 [.nils .word, .int .i64 0, .ff, .int .i64 0, .int .i64 0, .int .i64 0, .int .i64 0, .nils .word, .nils .bool, .int .i64 0, .nils .entry, .int .i64 0, .ff, .int .i64 0, .int .i64 0, .int .i64 0, .int .i64 0, .ff, .nils (.int .i64)]), .s (.store 19 (.t 4) (.t 11))]) (.seq (.seq (.reg [.s (.fa 12 (.t 1) 10), .s (.load 13 false 1 (.t 12)), .s (.len 14 false (.t 13)), .s (.bin 15 .eql (.t 14) (.k (.v (.c (.int .i64 0))))), .s (.mv 16 (.t 15)), .g 16 false (some 17) (.fa 17 (.t 1) 10), .g 16 false (some 18) (.load 18 false 1 (.t 17)), .g 16 false (some 19) (.ia 19 .entry (.t 18) (.k (.v (.c (.int .i64 0))))), .g 16 false (some 20) (.fa 20 (.t 19) 11), .g 16 false (some 21) (.load 21 false 1 (.t 20)), .g 16 false (some 22) (.bnot 22 (.t 21)), .s (.pick 23 (.t 16) (.k (.v (.c .tt))) (.t 22)), .s (.mv 24 (.t 23)), .g 24 false (some 25) (.fa 25 (.t 1) 0), .g 24 false (some 26) (.fa 26 (.t 25) 9), .g 24 false (some 27) (.load 27 false 1 (.t 26)), .g 24 false (some 28) (.bin 28 .neq (.t 27) (.k (.v (.c (.int .i64 0))))), .s (.pick 29 (.t 24) (.k (.v (.c .tt))) (.t 28))]) (.cond (.t 29) (.seq (.reg [.s (.load 30 true 19 (.t 4)), .s (.store 19 (.t 2) (.t 30)), .s (.mv 3 (.k (.v (.c .ff))))]) (.ret)) (.skip))) (.seq (.reg [.s (.fa 31 (.t 1) 10), .s (.load 32 false 1 (.t 31)), .s (.ia 33 .entry (.t 32) (.k (.v (.c (.int .i64 0))))), .s (.load 34 true 40 (.t 33)), .s (.alloc 5 [.int .i64 0, .ff, .int .i64 0, .int .i64 0, .int .i64 0, .int .i64 0, .int .i64 0, .int .i64 0, .int .i64 0, .int .i64 0, .int .i64 0, .ff, .int .i64 0, .int .i64 0, .int .i64 0, .ff, .int .i64 0, .int .i64 0, .int .i64 0, .int .i64 0, .int .i64 0, .ff, .int .i64 0, .int .i64 0, .int .i64 0, .int .i64 0, .int .i64 0, .int .i64 0, .ff, .int .i64 0, .int .i64 0, .int .i64 0, .int .i64 0, .int .i64 0, .int .i64 0, .ff, .int .i64 0, .int .i64 0, .int .i64 0, .int .i64 0]), .s (.store 40 (.t 5) (.t 34))]) (.seq (.seq (.reg [.s (.fa 35 (.t 5) 12), .s (.fa 36 (.t 35) 0), .s (.load 37 false 1 (.t 36)), .s (.bin 38 .neq (.t 37) (.k (.v (.c (.int .i64 0)))))]) (.cond (.t 38) (.seq (.rgd [] [.s (.fa 39 (.t 5) 12), .s (.fa 40 (.t 39) 0), .s (.load 41 false 1 (.t 40)), .s (.fa 42 (.t 5) 0), .s (.load 43 true 6 (.t 42)), .s (.fa 44 (.t 4) 0), .s (.fa 45 (.t 44) 9), .s (.store 1 (.t 45) (.t 41)), .s (.fa 46 (.t 4) 0), .s (.fa 47 (.t 46) 1), .s (.store 6 (.t 47) (.t 43))] (.tk 0 (.tk 1 (.tk 2 (.tk 3 (.tk 5 (.tk 6 (.alt 4 false (.one 7 true (.tk 8 (.tk 9 (.one 10 true (.done (some [2, 4])))))) (.alt 7 true (.one 4 false (.tk 8 (.tk 9 (.one 10 true (.done (some [2, 4])))))) (.nil)))))))))) (.seq (.reg [.s (.fa 48 (.t 4) 10), .s (.store 1 (.t 48) (.k (.v (.c (.nils .entry)))))]) (.seq (.reg [.s (.fa 49 (.t 4) 17), .s (.store 1 (.t 49) (.k (.v (.c .tt))))]) (.seq (.reg [.s (.load 50 true 19 (.t 4)), .s (.store 19 (.t 2) (.t 50)), .s (.mv 3 (.k (.v (.c .tt))))]) (.ret))))) (.skip))) (.seq (.reg [.s (.fa 51 (.t 4) 0), .s (.fa 52 (.t 5) 12), .s (.load 53 true 22 (.t 52)), .s (.call (some 54) 58 [(.t 51), (.t 53)])]) (.seq (.reg [.s (.fa 55 (.t 4) 10), .s (.load 56 false 1 (.t 55)), .s (.call (some 57) 129 [(.t 56), (.k (.v (.c (.int .i64 0)))), (.k (.v (.c (.int .i64 1))))]), .s (.fa 58 (.t 4) 10), .s (.store 1 (.t 58) (.t 57))]) (.seq (.reg [.s (.fa 59 (.t 1) 18), .s (.load 60 false 1 (.t 59)), .s (.fa 61 (.t 5) 0), .s (.load 62 true 6 (.t 61)), .s (.fa 63 (.t 5) 12), .s (.fa 64 (.t 63) 8), .s (.load 65 true 6 (.t 64)), .s (.call (some 66) 130 [(.t 60), (.t 62), (.t 65)]), .s (.fa 67 (.t 4) 18), .s (.store 1 (.t 67) (.t 66))]) (.seq (.seq (.reg [.s (.fa 68 (.t 5) 12), .s (.fa 69 (.t 68) 21), .s (.load 70 false 1 (.t 69)), .s (.bin 71 .geq (.t 70) (.k (.v (.c (.int .i64 0)))))]) (.cond (.t 71) (.seq (.reg [.s (.fa 72 (.t 4) 10), .s (.store 1 (.t 72) (.k (.v (.c (.nils .entry)))))]) (.seq (.reg [.s (.fa 73 (.t 4) 0), .s (.fa 74 (.t 73) 1), .s (.load 75 true 6 (.t 74)), .s (.fa 76 (.t 4) 11), .s (.store 6 (.t 76) (.t 75))]) (.reg [.s (.fa 77 (.t 4) 17), .s (.store 1 (.t 77) (.k (.v (.c .ff))))]))) (.skip))) (.seq (.reg [.s (.load 78 true 19 (.t 4)), .s (.store 19 (.t 2) (.t 78)), .s (.mv 3 (.k (.v (.c .tt))))]) (.ret)))))))))))⟩
def c_impl_Commit : Fun := ⟨76, [], fun ts K => as1 ts fun t0 => arG pCoreT t0 fun c => chk (LCore c 2147483647) (K (coreT (commitC c)) [])⟩
theorem run_impl_Commit (c : Core) (hpre : LCore c 2147483647) : runK [c_impl_CoreOk, c_impl_cloneCore, c_impl_State_put_v_Core, c_slices_Delete_Entry, c_impl_Learn] (0) [] pf_impl_Commit [tG (c.tc false [])] fun r o => r = coreT (commitC c) ∧ o = [] := by
  have n0 := @commitC_no c
  have n1 := @commitC_nr c
  have n2 := @commitC_t c
  have n3 := @commitC_d c
  have n4 := @commitC_0 c
  have n5 := @ncm c
  have hw : win c.rob (0 + Int.toNat 1) ((c.rob.length : Int) - 1).toNat = c.rob.drop 1 := by
    unfold win; rw [show 0 + Int.toNat 1 = 1 from rfl, List.take_of_length_le (by rw [List.length_drop]; omega)]
  have hwl : (c.rob.drop 1).length = c.rob.length - 1 := List.length_drop
  conv => whnf
  repeat' (first | (refine sel_i (fun h => ?_) (fun h => ?_) <;> conv => whnf) | (refine chk_c ?_ ?_ <;> conv => whnf) | (refine And.intro ?_ rfl) | (refine And.intro ?_ ?_ <;> conv => whnf))
  all_goals (try simp only [etaKey, etaWord, etaInst, etaEff, etaEntry, etaMemory, etaState, etaCore, Bool.not_eq_true', Bool.not_eq_false', bne_iff_ne, ne_eq, bne_eq_false_iff_eq, eqLen0, decide_eq_true_eq, decide_eq_false_iff_not, ge_iff_le, hw, hwl, List.nil_append, List.length_nil, show c.rob.getD (Int.toNat 0) (FT.zero .entry) = atE c 0 from rfl] at *)
  all_goals (try have hc := coreOk_len (c := c) (by assumption))
  all_goals first
    | trivial
    | (refine ⟨?_⟩; first | assumption | exact coreOk_l (by assumption) | exact hc.1 | omega | (refine ⟨by omega, by omega, by omega, by omega⟩) | (show (0 : Nat) < _; omega))
    | (rw [n0 (by assumption)]; rfl)
    | (rw [n1 (by assumption) (by first | exact .inl (by assumption) | exact .inr (.inl (by assumption)) | exact .inr (.inr (by assumption)))]; rfl)
    | (rw [n2 (by assumption) (n5 (by assumption) (by assumption) (by assumption)) (by assumption)]; rfl)
    | (rw [n3 (by assumption) (n5 (by assumption) (by assumption) (by assumption)) (by assumption) (by assumption)]; rfl)
    | (rw [n4 (by assumption) (n5 (by assumption) (by assumption) (by assumption)) (by assumption) (by assumption)]; rfl)
    | trace_state
theorem ok_impl_Commit : FunOk Tryz.prog c_impl_Commit := funOk (E := [c_impl_CoreOk, c_impl_cloneCore, c_impl_State_put_v_Core, c_slices_Delete_Entry, c_impl_Learn]) (envOk_cons ok_impl_CoreOk (envOk_cons ok_impl_cloneCore (envOk_cons ok_impl_State_put_v_Core (envOk_cons ok_slices_Delete_Entry (envOk_cons ok_impl_Learn (envOk_nil)))))) mixd Tryz.func76 (pf := pf_impl_Commit) (by kernel_rfl) fun ts K h => by
  obtain ⟨t0, e0, h⟩ := as1_out h
  subst e0
  obtain ⟨c, e1, hq⟩ := arG_out rd_core h
  clear h
  subst e1
  have h := hq
  clear hq
  obtain ⟨hpre, h⟩ := chk_o h
  exact ⟨_, _, h, Nat.le_of_ble_eq_true (show Nat.ble 1 Tryz.f76.ntmps = true by kernel_rfl), _, run_impl_Commit c hpre⟩

def pf_spec_Commit : PF := ⟨[.c 2 true 19, .t 3], .seq (.reg [.s (.box 1 (.t 0)), .s (.alloc 2 [.nils .word, .int .i64 0, .ff, .int .i64 0, .int .i64 0, .int .i64 0, .int .i64 0, .nils .word, .nils .bool, .int .i64 0, .nils .entry, .int .i64 0, .ff, .int .i64 0, .int .i64 0, .int .i64 0, .int .i64 0, .ff, .nils (.int .i64)]), .s (.mv 3 (.k (.v (.c .ff))))]) (.seq (.seq (.reg [.s (.load 6 true 19 (.t 1)), .s (.call (some 7) 83 [(.t 6)]), .s (.bnot 8 (.t 7))]) (.cond (.t 8) (.seq (.reg [.s (.build 9 [.nils .word, .int .i64 0, .ff, .int .i64 0, .int .i64 0, .int .i64 0, .int .i64 0, .nils .word, .nils .bool, .int .i64 0, .nils .entry, .int .i64 0, .ff, .int .i64 0, .int .i64 0, .int .i64 0, .int .i64 0, .ff, .nils (.int .i64)] []), .s (.store 19 (.t 2) (.t 9)), .s (.mv 3 (.k (.v (.c .ff))))]) (.ret)) (.skip))) (.seq (.reg [.s (.load 10 true 19 (.t 1)), .s (.call (some 11) 84 [(.t 10)]), .s (.alloc 4 [.nils .word, .int .i64 0, .ff, .int .i64 0, .int .i64 0, .int .i64 0, .int .i64 0, .nils .word, .nils .bool, .int .i64 0, .nils .entry, .int .i64 0, .ff, .int .i64 0, .int .i64 0, .int .i64 0, .int .i64 0, .ff, .nils (.int .i64)]), .s (.store 19 (.t 4) (.t 11))]) (.seq (.seq (.reg [.s (.fa 12 (.t 1) 10), .s (.load 13 false 1 (.t 12)), .s (.len 14 false (.t 13)), .s (.bin 15 .eql (.t 14) (.k (.v (.c (.int .i64 0))))), .s (.mv 16 (.t 15)), .g 16 false (some 17) (.fa 17 (.t 1) 10), .g 16 false (some 18) (.load 18 false 1 (.t 17)), .g 16 false (some 19) (.ia 19 .entry (.t 18) (.k (.v (.c (.int .i64 0))))), .g 16 false (some 20) (.fa 20 (.t 19) 11), .g 16 false (some 21) (.load 21 false 1 (.t 20)), .g 16 false (some 22) (.bnot 22 (.t 21)), .s (.pick 23 (.t 16) (.k (.v (.c .tt))) (.t 22)), .s (.mv 24 (.t 23)), .g 24 false (some 25) (.fa 25 (.t 1) 0), .g 24 false (some 26) (.fa 26 (.t 25) 9), .g 24 false (some 27) (.load 27 false 1 (.t 26)), .g 24 false (some 28) (.bin 28 .neq (.t 27) (.k (.v (.c (.int .i64 0))))), .s (.pick 29 (.t 24) (.k (.v (.c .tt))) (.t 28))]) (.cond (.t 29) (.seq (.reg [.s (.load 30 true 19 (.t 4)), .s (.store 19 (.t 2) (.t 30)), .s (.mv 3 (.k (.v (.c .ff))))]) (.ret)) (.skip))) (.seq (.reg [.s (.fa 31 (.t 1) 10), .s (.load 32 false 1 (.t 31)), .s (.ia 33 .entry (.t 32) (.k (.v (.c (.int .i64 0))))), .s (.load 34 true 40 (.t 33)), .s (.alloc 5 [.int .i64 0, .ff, .int .i64 0, .int .i64 0, .int .i64 0, .int .i64 0, .int .i64 0, .int .i64 0, .int .i64 0, .int .i64 0, .int .i64 0, .ff, .int .i64 0, .int .i64 0, .int .i64 0, .ff, .int .i64 0, .int .i64 0, .int .i64 0, .int .i64 0, .int .i64 0, .ff, .int .i64 0, .int .i64 0, .int .i64 0, .int .i64 0, .int .i64 0, .int .i64 0, .ff, .int .i64 0, .int .i64 0, .int .i64 0, .int .i64 0, .int .i64 0, .int .i64 0, .ff, .int .i64 0, .int .i64 0, .int .i64 0, .int .i64 0]), .s (.store 40 (.t 5) (.t 34))]) (.seq (.seq (.reg [.s (.fa 35 (.t 5) 12), .s (.fa 36 (.t 35) 0), .s (.load 37 false 1 (.t 36)), .s (.bin 38 .neq (.t 37) (.k (.v (.c (.int .i64 0)))))]) (.cond (.t 38) (.seq (.reg [.s (.fa 39 (.t 5) 12), .s (.fa 40 (.t 39) 0), .s (.load 41 false 1 (.t 40)), .s (.fa 42 (.t 4) 0), .s (.fa 43 (.t 42) 9), .s (.store 1 (.t 43) (.t 41))]) (.seq (.reg [.s (.fa 44 (.t 5) 0), .s (.load 45 true 6 (.t 44)), .s (.fa 46 (.t 4) 0), .s (.fa 47 (.t 46) 1), .s (.store 6 (.t 47) (.t 45))]) (.seq (.reg [.s (.fa 48 (.t 4) 10), .s (.store 1 (.t 48) (.k (.v (.c (.nils .entry)))))]) (.seq (.reg [.s (.fa 49 (.t 4) 17), .s (.store 1 (.t 49) (.k (.v (.c .tt))))]) (.seq (.reg [.s (.load 50 true 19 (.t 4)), .s (.store 19 (.t 2) (.t 50)), .s (.mv 3 (.k (.v (.c .tt))))]) (.ret)))))) (.skip))) (.seq (.reg [.s (.fa 51 (.t 4) 0), .s (.load 52 true 10 (.t 51)), .s (.fa 53 (.t 5) 12), .s (.load 54 true 22 (.t 53)), .s (.call (some 55) 140 [(.t 52), (.t 54)]), .s (.fa 56 (.t 4) 0), .s (.store 10 (.t 56) (.t 55))]) (.seq (.reg [.s (.bs 57 .entry []), .s (.fa 58 (.t 1) 10), .s (.load 59 false 1 (.t 58)), .s (.slc 60 .entry (.t 59) (some (.k (.v (.c (.int .i64 1))))) none), .s (.app 61 .entry (.t 57) (.t 60)), .s (.fa 62 (.t 4) 10), .s (.store 1 (.t 62) (.t 61))]) (.seq (.reg [.s (.fa 63 (.t 1) 18), .s (.load 64 false 1 (.t 63)), .s (.fa 65 (.t 5) 0), .s (.load 66 true 6 (.t 65)), .s (.fa 67 (.t 5) 12), .s (.fa 68 (.t 67) 8), .s (.load 69 true 6 (.t 68)), .s (.call (some 70) 141 [(.t 64), (.t 66), (.t 69)]), .s (.fa 71 (.t 4) 18), .s (.store 1 (.t 71) (.t 70))]) (.seq (.seq (.reg [.s (.fa 72 (.t 5) 12), .s (.fa 73 (.t 72) 21), .s (.load 74 false 1 (.t 73)), .s (.bin 75 .geq (.t 74) (.k (.v (.c (.int .i64 0)))))]) (.cond (.t 75) (.seq (.reg [.s (.fa 76 (.t 4) 10), .s (.store 1 (.t 76) (.k (.v (.c (.nils .entry)))))]) (.seq (.reg [.s (.fa 77 (.t 4) 0), .s (.fa 78 (.t 77) 1), .s (.load 79 true 6 (.t 78)), .s (.fa 80 (.t 4) 11), .s (.store 6 (.t 80) (.t 79))]) (.reg [.s (.fa 81 (.t 4) 17), .s (.store 1 (.t 81) (.k (.v (.c .ff))))]))) (.skip))) (.seq (.reg [.s (.load 82 true 19 (.t 4)), .s (.store 19 (.t 2) (.t 82)), .s (.mv 3 (.k (.v (.c .tt))))]) (.ret)))))))))))⟩
def c_spec_Commit : Fun := ⟨89, [], fun ts K => as1 ts fun t0 => arG pCoreT t0 fun c => chk (LCore c 2147483647) (K (coreT (commitC c)) [])⟩
theorem run_spec_Commit (c : Core) (hpre : LCore c 2147483647) : runK [c_spec_CoreOk, c_spec_l12Copy, c_spec_l9Apply, c_spec_Learn] (0) [] pf_spec_Commit [tG (c.tc false [])] fun r o => r = coreT (commitC c) ∧ o = [] := by
  have n0 := @commitC_no c
  have n1 := @commitC_nr c
  have n2 := @commitC_t c
  have n3 := @commitC_d c
  have n4 := @commitC_0 c
  have n5 := @ncm c
  have hw : win c.rob (0 + Int.toNat 1) ((c.rob.length : Int) - 1).toNat = c.rob.drop 1 := by
    unfold win; rw [show 0 + Int.toNat 1 = 1 from rfl, List.take_of_length_le (by rw [List.length_drop]; omega)]
  have hwl : (c.rob.drop 1).length = c.rob.length - 1 := List.length_drop
  conv => whnf
  repeat' (first | (refine sel_i (fun h => ?_) (fun h => ?_) <;> conv => whnf) | (refine chk_c ?_ ?_ <;> conv => whnf) | (refine And.intro ?_ rfl) | (refine And.intro ?_ ?_ <;> conv => whnf))
  all_goals (try simp only [etaKey, etaWord, etaInst, etaEff, etaEntry, etaMemory, etaState, etaCore, Bool.not_eq_true', Bool.not_eq_false', bne_iff_ne, ne_eq, bne_eq_false_iff_eq, eqLen0, decide_eq_true_eq, decide_eq_false_iff_not, ge_iff_le, hw, hwl, List.nil_append, List.length_nil, show c.rob.getD (Int.toNat 0) (FT.zero .entry) = atE c 0 from rfl] at *)
  all_goals (try have hc := coreOk_len (c := c) (by assumption))
  all_goals first
    | trivial
    | (refine ⟨?_⟩; first | assumption | exact coreOk_l (by assumption) | exact hc.1 | omega | (refine ⟨by omega, by omega, by omega, by omega⟩) | (show (0 : Nat) < _; omega))
    | (rw [n0 (by assumption)]; rfl)
    | (rw [n1 (by assumption) (by first | exact .inl (by assumption) | exact .inr (.inl (by assumption)) | exact .inr (.inr (by assumption)))]; rfl)
    | (rw [n2 (by assumption) (n5 (by assumption) (by assumption) (by assumption)) (by assumption)]; rfl)
    | (rw [n3 (by assumption) (n5 (by assumption) (by assumption) (by assumption)) (by assumption) (by assumption)]; rfl)
    | (rw [n4 (by assumption) (n5 (by assumption) (by assumption) (by assumption)) (by assumption) (by assumption)]; rfl)
    | trace_state
theorem ok_spec_Commit : FunOk Tryz.prog c_spec_Commit := funOk (E := [c_spec_CoreOk, c_spec_l12Copy, c_spec_l9Apply, c_spec_Learn]) (envOk_cons ok_spec_CoreOk (envOk_cons ok_spec_l12Copy (envOk_cons ok_spec_l9Apply (envOk_cons ok_spec_Learn (envOk_nil))))) mixd Tryz.func89 (pf := pf_spec_Commit) (by kernel_rfl) fun ts K h => by
  obtain ⟨t0, e0, h⟩ := as1_out h
  subst e0
  obtain ⟨c, e1, hq⟩ := arG_out rd_core h
  clear h
  subst e1
  have h := hq
  clear hq
  obtain ⟨hpre, h⟩ := chk_o h
  exact ⟨_, _, h, Nat.le_of_ble_eq_true (show Nat.ble 1 Tryz.f89.ntmps = true by kernel_rfl), _, run_spec_Commit c hpre⟩

theorem coreOk_mem {c : Core} (h : coreOk c = true) : memoryOk c.s.mem = true := (stateOk_iff.1 (coreOk_iff.1 h).1).2.2.2.1
theorem putE_lenOk {s : State} {e : Eff} (h : LenOk s) : LenOk (putE s e) := by
  obtain ⟨h1, h2, h3⟩ := h
  unfold putE
  refine ⟨?_, ?_, ?_⟩
  · dsimp only; split
    · rw [List.length_set]; exact h1
    · exact h1
  · dsimp only; split
    · rw [List.length_set]; exact h2
    · exact h2
  · dsimp only; split
    · rw [List.length_set]; exact h3
    · exact h3
theorem learnG_len (g : List Int) (pc nx : Word) : (learnG g pc nx).length = g.length := by
  unfold learnG; split
  · exact List.length_set ..
  · rfl
def Fit (c : Core) : Prop := LenOk c.s ∧ c.rob.length ≤ 7 ∧ c.guesses.length = 48
theorem fit_ok {c : Core} (h : coreOk c = true) : Fit c := by
  obtain ⟨h1, h2, h3⟩ := coreOk_len h
  exact ⟨h1, by omega, h3⟩
theorem Fit.l {c : Core} (h : Fit c) : LCore c 2147483647 := by
  obtain ⟨h1, h2, h3⟩ := h
  exact ⟨h1.l, by omega, by omega⟩
theorem zCore_l : LCore zCore 2147483647 := ⟨⟨Nat.zero_le _, Nat.zero_le _, Nat.zero_le _⟩, Nat.zero_le _, Nat.zero_le _⟩
theorem pullC_fit {l : List Inst} {c : Core} (h : coreOk c = true) : Fit (pullC l c).1 := by
  obtain ⟨h1, h2, h3⟩ := coreOk_len h
  unfold pullC
  rw [if_neg (by rw [h]; decide)]
  split
  · exact fit_ok h
  · split
    · exact ⟨h1, by simp only [List.length_append, List.length_cons, List.length_nil]; omega, h3⟩
    · exact ⟨h1, by simp only [List.length_append, List.length_cons, List.length_nil]; omega, h3⟩
theorem putAt_len (c : Core) (i : Int) : (putAt c i).length = c.rob.length := List.length_set ..
theorem doC_fit {c : Core} {i : Int} (h : coreOk c = true) : Fit (doC c i).1 := by
  obtain ⟨h1, h2, h3⟩ := coreOk_len h
  have hp := putAt_len c i
  unfold doC
  rw [if_neg (by rw [h]; decide)]
  split
  · exact fit_ok h
  · split
    · exact ⟨h1, by simp only [List.length_take]; omega, h3⟩
    · split
      · exact ⟨h1, by simp only [List.length_take]; omega, h3⟩
      · exact ⟨h1, by dsimp only; omega, h3⟩
theorem commitC_fit {c : Core} (h : coreOk c = true) : Fit (commitC c).1 := by
  obtain ⟨h1, h2, h3⟩ := coreOk_len h
  unfold commitC
  rw [if_neg (by rw [h]; decide)]
  split
  · exact fit_ok h
  · split
    · exact ⟨h1, Nat.zero_le _, h3⟩
    · split
      · exact ⟨putE_lenOk h1, Nat.zero_le _, by dsimp only; rw [learnG_len]; exact h3⟩
      · exact ⟨putE_lenOk h1, by simp only [List.length_drop]; omega, by dsimp only; rw [learnG_len]; exact h3⟩
theorem coreNew_l {s : State} (h : LState s 2147483647) : LCore (coreNew s) 2147483647 := by
  unfold coreNew
  split
  · exact ⟨h, Nat.zero_le _, (by decide : (List.replicate 48 (-1 : Int)).length ≤ 2147483647)⟩
  · exact zCore_l



/-! costs grow -/

/-! a core that is right stays so -/
theorem entryOk_iff {e : Entry} : entryOk e = true ↔ wordOk e.pc = true ∧ wordOk e.guess = true ∧ wordOk e.e.val = true ∧ wordOk e.e.next = true ∧ wordOk e.e.put = true ∧ (insOk e.x = true ∨ e.x = zI) ∧ (0 ≤ e.e.trap ∧ e.e.trap ≤ 5) ∧ (-1 ≤ e.e.r ∧ e.e.r ≤ 7) ∧ e.e.drop ≤ 4096 := by
  simp only [entryOk, Bool.and_eq_true, Bool.or_eq_true, decide_eq_true_eq, inR_t, and_assoc]
structure EffOk (e : Eff) : Prop where
  val : wordOk e.val = true
  next : wordOk e.next = true
  put : wordOk e.put = true
  trap : 0 ≤ e.trap ∧ e.trap ≤ 5
  r : -1 ≤ e.r ∧ e.r ≤ 7
  drop : e.drop ≤ 4096
theorem trapE_ok {t : Int} {pc : Word} (h : 0 ≤ t ∧ t ≤ 5) (hp : wordOk pc = true) : EffOk (trapE t pc) :=
  ⟨zW_ok, hp, zW_ok, h, (by decide : (-1 : Int) ≤ -1 ∧ (-1 : Int) ≤ 7), (by decide : (-1 : Int) ≤ 4096)⟩
theorem workE_tr {x : Inst} {pc a b got : Word} (h : ¬ (workE x pc a b got).trap = 0) : workE x pc a b got = trapE (workE x pc a b got).trap pc := by
  unfold workE at h ⊢
  repeat' (first | (exact rfl) | (exact absurd rfl h) | split at h)
  all_goals simp_all [trapE]
theorem insOk_r {x : Inst} (h : insOk x = true) : 0 ≤ x.r ∧ x.r ≤ 7 := by
  simp only [insOk, Bool.and_eq_true] at h
  exact fld_in h.1.1.1.1.2
theorem setsI_in {x : Inst} (h : insOk x = true ∨ x = zI) : -1 ≤ setsI x ∧ setsI x ≤ 7 := by
  rcases h with h | h
  · have := insOk_r h
    unfold setsI; split <;> omega
  · rw [h]; decide
theorem workE_ok {x : Inst} {pc a b got : Word} (hp : wordOk pc = true) (ha : wordOk a = true) (hb : wordOk b = true) (hg : wordOk got = true) (hx : insOk x = true ∨ x = zI) : EffOk (workE x pc a b got) := by
  obtain ⟨h1, h2⟩ := workE_spec (x := x) (pc := pc) ha hb hg
  by_cases h : (workE x pc a b got).trap = 0
  · have hs := h2 h
    have h0 := workE_0 h
    have hr := setsI_in hx
    refine ⟨hs.val.ok, hs.next.ok, hs.put.ok, h1, by rw [h0.1]; exact hr, ?_⟩
    by_cases hd : (workE x pc a b got).drop = -1
    · rw [hd]; decide
    · obtain ⟨q1, q2⟩ := hs.drop hd
      obtain ⟨t1, t2, _⟩ := tryW_0 q1
      have := keyOk_n (wordOk_is t1 t2)
      rw [q2]; omega
  · rw [workE_tr h]
    exact trapE_ok h1 hp
theorem coreOk_regs {c : Core} (h : coreOk c = true) : ∀ w ∈ c.s.regs, wordOk w = true := (stateOk_iff.1 (coreOk_iff.1 h).1).2.1
theorem coreOk_words {c : Core} (h : coreOk c = true) : ∀ w ∈ c.s.mem.words, wordOk w = true := (memoryOk_iff.1 (coreOk_mem h)).2.2
theorem valueC_ok {c : Core} (h : coreOk c = true) (i r : Int) : wordOk (valueC c i r).1 = true := by
  unfold valueC
  split
  · exact getD_ok (coreOk_regs h) _
  · rename_i q
    have := source_in c.rob i r
    split
    · exact (entryOk_iff.1 (getE_ok h (by omega))).2.2.1
    · exact zW_ok
theorem foundGo_ok {c : Core} (h : coreOk c = true) {y : Word} {n : Int} {got : Word} (hg : wordOk got = true) : ∀ k, k ≤ c.rob.length → wordOk (foundGo c.rob c.s.mem.gone y n got k) = true
  | 0, _ => hg
  | k + 1, hk => by
    unfold foundGo
    split
    · exact (filterW_fine (takenW_fine (entryOk_iff.1 (getE_ok h (show k < c.rob.length by omega))).2.2.2.2.1).1).1
    · exact foundGo_ok h hg k (by omega)
theorem foundC_ok {c : Core} (h : coreOk c = true) (i : Int) (y : Word) (n : Int) : wordOk (foundC c i y n).1 = true ∧ 0 ≤ (foundC c i y n).2 ∧ (foundC c i y n).2 ≤ 4 := by
  have hr := readM_in c.s.mem y n
  unfold foundC
  split
  · exact ⟨zW_ok, hr⟩
  · exact ⟨foundGo_ok h (readM_ok (coreOk_words h) _ _) _ (by omega), (by decide : (0 : Int) ≤ 0), (by decide : (0 : Int) ≤ 4)⟩
theorem memD_ok {c : Core} (h : coreOk c = true) (i : Int) (x : Inst) (a b : Word) : wordOk (memD c i x a b).1 = true ∧ 0 ≤ (memD c i x a b).2 ∧ (memD c i x a b).2 ≤ 4 := by
  unfold memD
  split
  · exact foundC_ok h _ _ _
  · split
    · exact ⟨zW_ok, writeC_in _ _ _ _⟩
    · exact ⟨zW_ok, (by decide : (0 : Int) ≤ 0), (by decide : (0 : Int) ≤ 4)⟩
theorem atE_ok {c : Core} (h : coreOk c = true) {i : Int} (h0 : 0 ≤ i) (h1 : i < c.rob.length) : entryOk (atE c i) = true := getE_ok h (by omega)
theorem doneE_ok {c : Core} (h : coreOk c = true) {i : Int} (h0 : 0 ≤ i) (h1 : i < c.rob.length) : EffOk (doneE c i) := by
  have he := entryOk_iff.1 (atE_ok h h0 h1)
  have hm := memD_ok h i (atE c i).x (argC c i (atE c i).x.a) (argC c i (atE c i).x.b)
  unfold doneE doneX
  split
  · exact trapE_ok ⟨hm.2.1, by have := hm.2.2; omega⟩ he.1
  · exact workE_ok he.1 (valueC_ok h _ _) (valueC_ok h _ _) hm.1 he.2.2.2.2.2.1
theorem putAt_ok {c : Core} (h : coreOk c = true) {i : Int} (h0 : 0 ≤ i) (h1 : i < c.rob.length) : ∀ e ∈ putAt c i, entryOk e = true := fun e he => by
  have hx := entryOk_iff.1 (atE_ok h h0 h1)
  have hd := doneE_ok h h0 h1
  rcases mem_set he with q | q
  · exact (coreOk_iff.1 h).2.2.1 e q
  · rw [q]
    exact entryOk_iff.2 ⟨hx.1, hx.2.1, hd.val, hd.next, hd.put, hx.2.2.2.2.2.1, hd.trap, hd.r, hd.drop⟩
theorem learnG_ok {g : List Int} (h : guessOk g = true) (pc nx : Word) : guessOk (learnG g pc nx) = true := by
  simp only [guessOk, Bool.and_eq_true, decide_eq_true_eq, List.all_eq_true] at h ⊢
  refine ⟨by rw [learnG_len]; exact h.1, fun x hx => ?_⟩
  unfold learnG at hx
  split at hx
  · rcases mem_set hx with q | q
    · exact h.2 x q
    · rw [q]; have := and65 nx.n; exact inR_t.2 ⟨by omega, by omega⟩
  · exact h.2 x hx
theorem guessW_ok (g : List Int) (pc : Word) : wordOk (guessW g pc) = true := by
  unfold guessW nextW
  split
  · exact (pointW_fine _ _).1
  · exact (pointW_fine _ _).1
theorem pullC_ok {l : List Inst} {c : Core} (h : coreOk c = true) : coreOk (pullC l c).1 = true := by
  obtain ⟨h1, h2, h3, h4, h5⟩ := coreOk_iff.1 h
  unfold pullC
  rw [if_neg (by rw [h]; decide)]
  split
  · exact h
  · rename_i q
    have hl : c.rob.length < 6 := Nat.lt_of_not_le fun e => q (.inr (.inl e))
    split
    · refine coreOk_iff.2 ⟨h1, by simp only [List.length_append, List.length_cons, List.length_nil]; omega, fun e he => ?_, h4, h5⟩
      rcases List.mem_append.1 he with he | he
      · exact h3 e he
      · rw [List.mem_singleton.1 he]
        have ht := trapE_ok (t := (fetchI l c.next).2) ⟨(fetchI_in4 l c.next).1, by have := (fetchI_in4 l c.next).2; omega⟩ h4
        exact entryOk_iff.2 ⟨h4, h4, ht.val, ht.next, ht.put, .inr rfl, ht.trap, ht.r, ht.drop⟩
    · rename_i q2
      have hf : (fetchI l c.next).2 = 0 := by omega
      refine coreOk_iff.2 ⟨h1, by simp only [List.length_append, List.length_cons, List.length_nil]; omega, fun e he => ?_, guessW_ok _ _, h5⟩
      rcases List.mem_append.1 he with he | he
      · exact h3 e he
      · rw [List.mem_singleton.1 he]
        exact entryOk_iff.2 ⟨h4, guessW_ok _ _, zW_ok, zW_ok, zW_ok, .inl (fetchI_ok hf), (by decide : (0 : Int) ≤ 0 ∧ (0 : Int) ≤ 5), (by decide : (-1 : Int) ≤ 0 ∧ (0 : Int) ≤ 7), (by decide : (0 : Int) ≤ 4096)⟩
theorem doC_ok {c : Core} {i : Int} (h : coreOk c = true) : coreOk (doC c i).1 = true := by
  obtain ⟨h1, h2, h3, h4, h5⟩ := coreOk_iff.1 h
  have hp := putAt_len c i
  unfold doC
  rw [if_neg (by rw [h]; decide)]
  split
  · exact h
  · rename_i q
    obtain ⟨_, i0, i1, _⟩ := readyC_in (c := c) (i := i) (by simpa using q)
    have ho := putAt_ok h i0 i1
    split
    · exact coreOk_iff.2 ⟨h1, by simp only [List.length_take]; omega, fun e he => ho e (List.mem_of_mem_take he), h4, h5⟩
    · split
      · exact coreOk_iff.2 ⟨h1, by simp only [List.length_take]; omega, fun e he => ho e (List.mem_of_mem_take he), (doneE_ok h i0 i1).next, h5⟩
      · exact coreOk_iff.2 ⟨h1, by dsimp only; omega, ho, h4, h5⟩
theorem commitC_ok {c : Core} (h : coreOk c = true) : coreOk (commitC c).1 = true := by
  obtain ⟨h1, h2, h3, h4, h5⟩ := coreOk_iff.1 h
  unfold commitC
  rw [if_neg (by rw [h]; decide)]
  split
  · exact h
  · rename_i q
    have hl : 0 < c.rob.length := Nat.pos_of_ne_zero fun e => q (.inl e)
    have he := entryOk_iff.1 (atE_ok h (i := 0) (by omega) (by omega))
    split
    · obtain ⟨r1, r2, r3, r4, r5⟩ := stateOk_iff.1 h1
      exact coreOk_iff.2 ⟨stateOk_iff.2 ⟨r1, r2, he.1, r4, he.2.2.2.2.2.2.1⟩, Nat.zero_le _, (fun e he => by cases he), h4, h5⟩
    · have hs := putE_ok (e := (atE c 0).e) h1 he.2.2.1 he.2.2.2.1 he.2.2.2.2.1
      split
      · exact coreOk_iff.2 ⟨hs, Nat.zero_le _, (fun e he => by cases he), he.2.2.2.1, learnG_ok h5 _ _⟩
      · exact coreOk_iff.2 ⟨hs, by simp only [List.length_drop]; omega, fun e hm => h3 e (List.mem_of_mem_drop hm), h4, learnG_ok h5 _ _⟩
theorem coreNew_ok {s : State} (h : stateOk s = true) : coreOk (coreNew s) = true := by
  unfold coreNew
  rw [if_pos h]
  exact coreOk_iff.2 ⟨h, Nat.zero_le _, fun e he => (by cases he), (stateOk_iff.1 h).2.2.1, (by decide : guessOk guessNew = true)⟩
/-! what was begun -/


def Sm (x : Seen) : Prop := (-1 ≤ x.at_ ∧ x.at_ ≤ 10) ∧ (-1 ≤ x.r ∧ x.r ≤ 10) ∧ (-1 ≤ x.addr ∧ x.addr ≤ 10)
theorem Sm.inS {x : Seen} (h : Sm x) : InS x := by
  obtain ⟨h1, h2, h3⟩ := h
  exact ⟨⟨by omega, by omega⟩, ⟨by omega, by omega⟩, ⟨by omega, by omega⟩⟩

/-! a core is settled -/
def doGo : Nat → Nat → Core → Core
  | 0, _, c => c
  | n + 1, i, c => if i < c.rob.length then doGo n (i + 1) (doC c (i : Int)).1 else c
def doAll (c : Core) : Core := doGo 8 0 c
def settleGo : Nat → Core → Int → Core × Int
  | 0, c, n => (c, n)
  | k + 1, c, n => if 0 < c.rob.length then settleGo k (commitC (doAll c)).1 (if (commitC (doAll c)).2 then n + 1 else n) else (c, n)
def settle (c : Core) : Core × Int := if coreOk c = false then (zCore, 0) else settleGo 600 c 0
def pullN (l : List Inst) : Nat → Core → Core
  | 0, c => c
  | n + 1, c => pullN l n (pullC l c).1
def outGo (l : List Inst) (w : Nat) : Nat → Core → Int → Core × Int
  | 0, c, a => (c, a)
  | k + 1, c, a => if c.s.trap = 0 then outGo l w k (settle (pullN l w c)).1 (a + (settle (pullN l w c)).2) else (c, a)
def wideI (w : Int) : Int := if inR w 1 6 then w else 1
def outOrder (l : List Inst) (s : State) (w n : Int) : State × Int := if stateOk s = false then (zState, 0) else ((outGo l (wideI w).toNat (min n 600).toNat (coreNew s) 0).1.s, (outGo l (wideI w).toNat (min n 600).toNat (coreNew s) 0).2)
def Sz7 (c : Core) : Prop := LCore c 2147483647 ∧ c.rob.length ≤ 7
theorem Fit.sz {c : Core} (h : Fit c) : Sz7 c := ⟨h.l, h.2.1⟩
theorem zCore_sz : Sz7 zCore := ⟨zCore_l, Nat.zero_le _⟩
theorem do_sz {c : Core} {i : Int} : Sz7 (doC c i).1 := by
  cases h : coreOk c with
  | true => exact (doC_fit h).sz
  | false => rw [doC_no h]; exact zCore_sz
theorem commit_sz {c : Core} : Sz7 (commitC c).1 := by
  cases h : coreOk c with
  | true => exact (commitC_fit h).sz
  | false => rw [commitC_no h]; exact zCore_sz
theorem pull_sz {l : List Inst} {c : Core} : Sz7 (pullC l c).1 := by
  cases h : coreOk c with
  | true => exact (pullC_fit h).sz
  | false => rw [pullC_no h]; exact zCore_sz
theorem doGo_go {n i : Nat} {c : Core} (h : i < c.rob.length) : doGo (n + 1) i c = doGo n (i + 1) (doC c (i : Int)).1 := if_pos h
theorem doGo_end {n i : Nat} {c : Core} (h : ¬ i < c.rob.length) : doGo n i c = c := by
  cases n with
  | zero => rfl
  | succ n => exact if_neg h
theorem settleGo_go {k : Nat} {c : Core} {n : Int} (h : 0 < c.rob.length) : settleGo (k + 1) c n = settleGo k (commitC (doAll c)).1 (if (commitC (doAll c)).2 then n + 1 else n) := if_pos h
theorem settleGo_end {k : Nat} {c : Core} {n : Int} (h : ¬ 0 < c.rob.length) : settleGo k c n = (c, n) := by
  cases k with
  | zero => rfl
  | succ n => exact if_neg h
def numT (p : Core × Int) : Tree := .tup [.g (p.1.tc true []), .c (.int .i64 p.2)]

/-! out of order comes to what in order comes to -/
theorem putE_cell {s : State} {e : Eff} {c : Nat} (h : ¬ e.addr = (c : Int)) : (putE s e).mem.words.getD c (FT.zero .word) = s.mem.words.getD c (FT.zero .word) := by
  unfold putE
  dsimp only
  split
  · rename_i hr
    have hr := inR_t.1 hr
    rw [List.getD_eq_getElem?_getD, List.getD_eq_getElem?_getD, List.getElem?_set_ne (by omega)]
  · rfl
theorem opCases {x : Inst} (h : insOk x = true) : x.op = 1 ∨ x.op = 2 ∨ x.op = 3 ∨ x.op = 4 ∨ x.op = 5 ∨ x.op = 6 ∨ x.op = 7 ∨ x.op = 8 ∨ x.op = 9 ∨ x.op = 10 ∨ x.op = 11 ∨ x.op = 12 ∨ x.op = 13 ∨ x.op = 14 ∨ x.op = 15 := by
  simp only [insOk, Bool.and_eq_true, inR_t] at h
  omega
theorem setsI_has (x : Inst) : setsI x = if hasC x.op 82 then x.r else -1 := by
  rw [hasR]; unfold setsI
  by_cases h : andI (maskI x.op) 1 = 0 <;> simp [h]
theorem workE_r {x : Inst} {pc a b got : Word} (h : (workE x pc a b got).trap = 0) : (workE x pc a b got).r = setsI x := by
  rw [setsI_has]
  unfold workE at h ⊢
  by_cases h11 : x.op = 11
  · rw [if_pos h11, if_neg (by rw [h11]; decide)]
  rw [if_neg h11] at h ⊢
  by_cases h12 : x.op = 12
  · rw [if_pos h12] at h ⊢
    by_cases q : tryW a a.n 4 ≠ 0
    · rw [if_pos q] at h; exact absurd h q
    · rw [if_neg q, if_pos (by rw [h12]; decide)]
  rw [if_neg h12] at h ⊢
  by_cases h13 : x.op = 13
  · rw [if_pos h13]; show (-1 : Int) = _; rw [if_neg (by rw [h13]; decide)]
  rw [if_neg h13] at h ⊢
  by_cases h14 : x.op = 14
  · rw [if_pos h14] at h ⊢
    by_cases q : tryW a a.n 32 ≠ 0
    · rw [if_pos q] at h; exact absurd h q
    · rw [if_neg q, if_neg (by rw [h14]; decide)]
  rw [if_neg h14] at h ⊢
  by_cases h15 : x.op = 15
  · rw [if_pos h15] at h; exact absurd h (by show ¬ (5 : Int) = 0; decide)
  rw [if_neg h15] at h ⊢
  by_cases hr : hasC x.op 82 = true
  · rw [if_pos hr, if_pos hr]
  · rw [if_neg hr, if_neg hr]
theorem workE_addr {x : Inst} {pc a b got : Word} (h : x.op ≠ 11) : (workE x pc a b got).addr = -1 := by
  unfold workE
  rw [if_neg h]
  repeat' split
  all_goals rfl
theorem workE_drop {x : Inst} {pc a b got : Word} (h : x.op ≠ 14) : (workE x pc a b got).drop = -1 := by
  unfold workE
  repeat' split
  all_goals first | rfl | contradiction
theorem workE_11 {x : Inst} {pc a b got : Word} (h : x.op = 11) : workE x pc a b got = ⟨0, -1, zW, nextW pc, IntKind.i64.wrap (a.n + x.n), b, -1⟩ := by
  unfold workE; rw [if_pos h]
theorem workE_same {x : Inst} {pc a a' b b' got got' : Word} (hx : insOk x = true) (ha : hasC x.op 65 = true → a = a') (hb : hasC x.op 66 = true → b = b') (hg : x.op = 10 → got = got') : workE x pc a b got = workE x pc a' b' got' := by
  rcases opCases hx with h | h | h | h | h | h | h | h | h | h | h | h | h | h | h
  · unfold workE madeW; simp only [h, Int.reduceEq, ↓reduceIte]
  · rw [ha (by rw [h]; decide), hb (by rw [h]; decide)]; unfold workE madeW; simp only [h, Int.reduceEq, ↓reduceIte]
  · rw [ha (by rw [h]; decide)]; unfold workE madeW; simp only [h, Int.reduceEq, ↓reduceIte]
  · rw [ha (by rw [h]; decide), hb (by rw [h]; decide)]; unfold workE madeW; simp only [h, Int.reduceEq, ↓reduceIte]
  · rw [ha (by rw [h]; decide), hb (by rw [h]; decide)]; unfold workE madeW; simp only [h, Int.reduceEq, ↓reduceIte]
  · rw [ha (by rw [h]; decide), hb (by rw [h]; decide)]; unfold workE madeW; simp only [h, Int.reduceEq, ↓reduceIte]
  · rw [ha (by rw [h]; decide), hb (by rw [h]; decide)]; unfold workE madeW; simp only [h, Int.reduceEq, ↓reduceIte]
  · rw [ha (by rw [h]; decide), hb (by rw [h]; decide)]; unfold workE madeW; simp only [h, Int.reduceEq, ↓reduceIte]
  · rw [ha (by rw [h]; decide)]; unfold workE madeW; simp only [h, Int.reduceEq, ↓reduceIte]
  · rw [ha (by rw [h]; decide), hg h]; unfold workE madeW; simp only [h, Int.reduceEq, ↓reduceIte]
  · rw [ha (by rw [h]; decide), hb (by rw [h]; decide)]; unfold workE madeW; simp only [h, Int.reduceEq, ↓reduceIte]
  · rw [ha (by rw [h]; decide)]; unfold workE madeW; simp only [h, Int.reduceEq, ↓reduceIte]
  · rw [ha (by rw [h]; decide)]; unfold workE madeW; simp only [h, Int.reduceEq, ↓reduceIte]
  · rw [ha (by rw [h]; decide)]; unfold workE madeW; simp only [h, Int.reduceEq, ↓reduceIte]
  · unfold workE madeW; simp only [h, Int.reduceEq, ↓reduceIte]
structure On (l : List Inst) (e : Entry) (t : State) : Prop where
  pc : e.pc = t.pc
  x : e.x = (fetchI l t.pc).1
  fe : (fetchI l t.pc).2 ≠ 0 → e.done = true
  eff : e.done = true → e.e = effE l t
def GdR (l : List Inst) (nx : Word) (st : Bool) : List Entry → State → Prop
  | [], t => st = false ∧ nx = t.pc
  | e :: r, t => On l e t ∧ ((effE l t).trap ≠ 0 → e.done = true → r = [] ∧ st = true) ∧ ((effE l t).trap = 0 → (e.done = true ∨ (effE l t).next = e.guess) → GdR l nx st r (putE t (effE l t)))
def RcR (l : List Inst) : List Entry → State → State → Prop
  | [], t, u => u = t
  | e :: r, t, u => On l e t ∧ (effE l t).trap = 0 ∧ RcR l r (putE t (effE l t)) u
theorem effE_fe {l : List Inst} {t : State} (h : (fetchI l t.pc).2 ≠ 0) : effE l t = trapE (fetchI l t.pc).2 t.pc := by
  unfold effE; simp only; rw [if_pos h]
theorem good_split {l : List Inst} {nx : Word} {st : Bool} {e : Entry} {post : List Entry} : ∀ (pre : List Entry) (t : State), GdR l nx st (pre ++ e :: post) t →
    (∃ u, RcR l pre t u ∧ GdR l nx st (e :: post) u ∧ ∀ r nx' st', GdR l nx' st' r u → GdR l nx' st' (pre ++ r) t) ∨ (∀ r nx' st', GdR l nx' st' (pre ++ r) t)
  | [], t, h => .inl ⟨t, rfl, h, fun _ _ _ h => h⟩
  | x :: pre, t, ⟨h1, h2, h3⟩ => by
    by_cases ht : (effE l t).trap = 0
    · by_cases hg : x.done = true ∨ (effE l t).next = x.guess
      · rcases good_split pre _ (h3 ht hg) with ⟨u, q1, q2, q3⟩ | q
        · exact .inl ⟨u, ⟨h1, ht, q1⟩, q2, fun r nx' st' q => ⟨h1, fun h => absurd ht h, fun _ _ => q3 r nx' st' q⟩⟩
        · exact .inr fun r nx' st' => ⟨h1, fun h => absurd ht h, fun _ _ => q r nx' st'⟩
      · exact .inr fun r nx' st' => ⟨h1, fun h => absurd ht h, fun _ h => absurd h hg⟩
    · have hd : ¬ x.done = true := fun h => by have := (h2 ht h).1; simp at this
      exact .inr fun r nx' st' => ⟨h1, fun _ h => absurd h hd, fun h => absurd h ht⟩
theorem reach_snoc {l : List Inst} {e : Entry} : ∀ {p : List Entry} {t u : State}, RcR l (p ++ [e]) t u → ∃ v, RcR l p t v ∧ On l e v ∧ (effE l v).trap = 0 ∧ u = putE v (effE l v)
  | [], t, u, ⟨h1, h2, h3⟩ => ⟨t, rfl, h1, h2, h3⟩
  | x :: p, t, u, ⟨h1, h2, h3⟩ => by
    obtain ⟨v, q1, q2⟩ := reach_snoc h3
    exact ⟨v, ⟨h1, h2, q1⟩, q2⟩
theorem putE_stOk {l : List Inst} {t : State} (h : stateOk t = true) (h2 : t.trap = 0) (h3 : (effE l t).trap = 0) : stateOk (putE t (effE l t)) = true := by
  rw [← stepS_0 h h2 h3]; exact stepS_ok h
theorem reach_ok {l : List Inst} : ∀ {p : List Entry} {t u : State}, stateOk t = true → t.trap = 0 → RcR l p t u → stateOk u = true ∧ u.trap = 0
  | [], t, u, h, h2, h3 => by rw [show u = t from h3]; exact ⟨h, h2⟩
  | x :: p, t, u, h, h2, ⟨h3, h4, h5⟩ => reach_ok (putE_stOk h h2 h4) (show t.trap = 0 from h2) h5
theorem takeSnocD {α : Type} {xs : List α} {k : Nat} {z : α} (h : k < xs.length) : xs.take (k + 1) = xs.take k ++ [xs.getD k z] := by
  rw [List.take_add_one, List.getD_eq_getElem?_getD, List.getElem?_eq_getElem h]; rfl
theorem set_split {α : Type} {xs : List α} {k : Nat} {a : α} (h : k < xs.length) : xs.set k a = xs.take k ++ a :: xs.drop (k + 1) := by
  rw [List.set_eq_take_append_cons_drop, if_pos h]
theorem take_split {α : Type} {xs : List α} {k : Nat} {a : α} (h : k < xs.length) : (xs.set k a).take (k + 1) = xs.take k ++ [a] := by
  rw [set_split h, List.take_append, List.take_of_length_le (by rw [List.length_take]; omega), List.length_take, show k + 1 - min k xs.length = 1 by omega]; rfl
theorem get_split {α : Type} {xs : List α} {k : Nat} {z : α} (h : k < xs.length) : xs = xs.take k ++ xs.getD k z :: xs.drop (k + 1) := by
  rw [List.getD_eq_getElem?_getD, List.getElem?_eq_getElem h]
  show xs = xs.take k ++ xs[k] :: xs.drop (k + 1)
  rw [List.getElem_cons_drop, List.take_append_drop]
theorem effE_r {l : List Inst} {t : State} (h : (effE l t).trap = 0) : (effE l t).r = setsI (fetchI l t.pc).1 := by
  obtain ⟨x, a, b, got, q⟩ := effE_parts h
  rw [q.eff] at h ⊢
  rw [workE_r h, q.fetch]
theorem On.setBy {l : List Inst} {e : Entry} {t : State} (h : On l e t) (ht : (effE l t).trap = 0) : setBy e = (effE l t).r := by
  unfold Go.Pi.setBy
  split
  · rename_i q; rw [h.eff q]
  · rw [effE_r ht, h.x]
theorem putE_reg {s : State} {e : Eff} {r : Int} (hs : s.regs.length = 8) (h0 : 0 ≤ r) (h1 : r ≤ 7) : (putE s e).regs.getD r.toNat (FT.zero .word) = if e.r = r then e.val else s.regs.getD r.toNat (FT.zero .word) := by
  unfold putE
  dsimp only
  split
  · rename_i hr
    have hr := inR_t.1 hr
    rw [getD_set _ _ _ _ _ (by omega)]
    by_cases q : e.r = r
    · rw [if_pos (by omega), if_pos q]
    · rw [if_neg (by omega), if_neg q]
  · rename_i hr
    rw [if_neg]
    intro q
    exact hr (inR_t.2 (by omega))
theorem reach_val {l : List Inst} {rob : List Entry} {t : State} (hs : stateOk t = true) (ht : t.trap = 0) {r : Int} (h0 : 0 ≤ r) (h1 : r ≤ 7) : ∀ k, k ≤ rob.length → ∀ u, RcR l (rob.take k) t u →
    (srcGo rob r k < 0 → u.regs.getD r.toNat (FT.zero .word) = t.regs.getD r.toNat (FT.zero .word)) ∧
    (0 ≤ srcGo rob r k → (rob.getD (srcGo rob r k).toNat (FT.zero .entry)).done = true → u.regs.getD r.toNat (FT.zero .word) = (rob.getD (srcGo rob r k).toNat (FT.zero .entry)).e.val)
  | 0, _, u, h => by
    rw [show u = t from h]
    exact ⟨fun _ => rfl, fun h => absurd h (by unfold srcGo; decide)⟩
  | k + 1, hk, u, h => by
    rw [takeSnocD (z := FT.zero .entry) (by omega)] at h
    obtain ⟨v, q1, q2, q3, rfl⟩ := reach_snoc h
    have ih := reach_val hs ht h0 h1 k (by omega) v q1
    have hv := reach_ok hs ht q1
    rw [putE_reg (stateOk_iff.1 hv.1).1 h0 h1]
    by_cases e : setBy (rob.getD k (FT.zero .entry)) = r
    · rw [srcGo_yes e]
      have e2 := q2.setBy q3
      rw [if_pos (by omega)]
      refine ⟨fun h => absurd h (by omega), fun _ hd => ?_⟩
      rw [Int.toNat_natCast] at hd ⊢
      rw [q2.eff hd]
    · rw [srcGo_no e, if_neg (by rw [← q2.setBy q3]; exact e)]
      exact ih
theorem effE_11 {l : List Inst} {t : State} (hs : stateOk t = true) (h : (effE l t).trap = 0) (h2 : (fetchI l t.pc).1.op = 11) : 0 ≤ (effE l t).addr ∧ (effE l t).addr ≤ 23 := by
  obtain ⟨x, a, b, got, q⟩ := effE_parts h
  have h11 : x.op = 11 := by rw [q.fetch] at h2; exact h2
  have hm := q.mem
  rw [memE_11 (by omega) h11] at hm
  have hw := writeC_00 (congrArg Prod.snd hm)
  have hl := (memoryOk_iff.1 (stateOk_iff.1 hs).2.2.2.1).1
  rw [q.eff, workE_11 h11]
  dsimp only
  omega
theorem effE_no {l : List Inst} {t : State} : ((fetchI l t.pc).1.op ≠ 11 → (effE l t).addr = -1) ∧ ((fetchI l t.pc).1.op ≠ 14 → (effE l t).drop = -1) := by
  unfold effE
  simp only
  split
  · exact ⟨fun _ => rfl, fun _ => rfl⟩
  · split
    · exact ⟨fun _ => rfl, fun _ => rfl⟩
    · exact ⟨workE_addr, workE_drop⟩
theorem reach_mem {l : List Inst} {rob : List Entry} {t : State} (hs : stateOk t = true) (ht : t.trap = 0) {n : Int} (h0 : 0 ≤ n) (h1 : n ≤ 23) {y : Word} : ∀ k, k ≤ rob.length → ∀ u, RcR l (rob.take k) t u → (rob.take k).any blkE = false →
    u.mem.gone = t.mem.gone ∧ foundGo rob t.mem.gone y n (filterW t.mem.gone (takenW y (t.mem.words.getD n.toNat (FT.zero .word)))) k = filterW t.mem.gone (takenW y (u.mem.words.getD n.toNat (FT.zero .word)))
  | 0, _, u, h, _ => by
    rw [show u = t from h]; exact ⟨rfl, rfl⟩
  | k + 1, hk, u, h, hb => by
    rw [takeSnocD (z := FT.zero .entry) (by omega)] at h hb
    rw [List.any_append, Bool.or_eq_false_iff] at hb
    obtain ⟨v, q1, q2, q3, rfl⟩ := reach_snoc h
    obtain ⟨ih1, ih2⟩ := reach_mem hs ht h0 h1 k (by omega) v q1 hb.1
    have hv := reach_ok hs ht q1
    have hb2 : blkE (rob.getD k (FT.zero .entry)) = false := by simpa using hb.2
    simp only [blkE, Bool.or_eq_false_iff, Bool.and_eq_false_iff, beq_eq_false_iff_ne] at hb2
    have hx := q2.x
    have hdrop : (effE l v).drop = -1 := effE_no.2 (by rw [← hx]; exact hb2.2)
    have hgone : (putE v (effE l v)).mem.gone = v.mem.gone := by
      unfold putE; dsimp only; rw [hdrop]; rfl
    refine ⟨hgone.trans ih1, ?_⟩
    have hlen := (memoryOk_iff.1 (stateOk_iff.1 hv.1).2.2.2.1).1
    by_cases e11 : (rob.getD k (FT.zero .entry)).x.op = 11
    · have hd : (rob.getD k (FT.zero .entry)).done = true := by
        rcases hb2.1 with q | q
        · exact absurd e11 q
        · simpa using q
      have he := q2.eff hd
      have ha := effE_11 hv.1 q3 (by rw [← hx]; exact e11)
      by_cases ea : (effE l v).addr = n
      · rw [foundGo_yes (by simp only [hitE, hd, e11, he, q3, ea]; simp)]
        rw [he]
        congr 2
        unfold putE; dsimp only
        rw [if_pos (inR_t.2 ha), getD_set _ _ _ _ _ (by omega), if_pos (by omega)]
      · rw [foundGo_no (by simp only [hitE, he]; simp [ea])]
        rw [ih2]
        have hw := putE_cell (s := v) (e := effE l v) (c := n.toNat) (by omega)
        rw [hw]
    · have ha : (effE l v).addr = -1 := effE_no.1 (by rw [← hx]; exact e11)
      rw [foundGo_no (by unfold hitE; rw [beq_eq_false_iff_ne.2 e11]; simp only [Bool.and_false, Bool.false_and]), ih2]
      have hw := putE_cell (s := v) (e := effE l v) (c := n.toNat) (by omega)
      rw [hw]
theorem len_of {s : State} (h : stateOk s = true) : s.regs.length = 8 ∧ s.mem.words.length = 24 ∧ s.mem.gone.length = 24 := stateOk_len h
theorem readC_len {m m' : Mem} (h : m.words.length = m'.words.length) (y : Word) (n : Int) : readC m y n = readC m' y n := by unfold readC; rw [h]
theorem writeC_len {m m' : Mem} (h : m.words.length = m'.words.length) (y w : Word) (n : Int) : writeC m y n w = writeC m' y n w := by unfold writeC; rw [h]
theorem insOk_ab {x : Inst} (h : insOk x = true) : (0 ≤ x.a ∧ x.a ≤ 7) ∧ (0 ≤ x.b ∧ x.b ≤ 7) := by
  simp only [insOk, Bool.and_eq_true, fld, inR_t] at h
  omega
theorem arg_eq {l : List Inst} {c : Core} {i : Nat} {u : State} (hc : coreOk c = true) (ht : c.s.trap = 0) (hi : i < c.rob.length) (hr : RcR l (c.rob.take i) c.s u) {r : Int} (h0 : 0 ≤ r) (h1 : r ≤ 7) (hv : (valueC c i r).2 = true) : argC c i r = u.regs.getD r.toNat (FT.zero .word) := by
  have hs := (coreOk_iff.1 hc).1
  have e : source c.rob i r = srcGo c.rob r i := by
    unfold source; rw [if_neg (by omega), show (min (i : Int) c.rob.length).toNat = i by omega]
  obtain ⟨q1, q2⟩ := reach_val hs ht h0 h1 i (by omega) u hr
  unfold argC
  by_cases hn : source c.rob i r < 0
  · rw [valueC_no hn]; exact (q1 (by omega)).symm
  · cases hd : (c.rob.getD (source c.rob i r).toNat (FT.zero .entry)).done with
    | true => rw [valueC_d hn hd, e]; exact (q2 (by omega) (by rw [← e]; exact hd)).symm
    | false => rw [valueC_n hn hd] at hv; cases hv
theorem done_eff {l : List Inst} {c : Core} {i : Nat} {u : State} (ht : c.s.trap = 0) (hq : readyC c i = true) (hr : RcR l (c.rob.take i) c.s u) (ho : On l (atE c i) u) : doneE c i = effE l u := by
  obtain ⟨hc, _, hi, hd⟩ := readyC_in hq
  have hs := (coreOk_iff.1 hc).1
  have hi : i < c.rob.length := by omega
  have hf : (fetchI l u.pc).2 = 0 := by
    by_cases q : (fetchI l u.pc).2 = 0
    · exact q
    · have := ho.fe q; rw [this] at hd; cases hd
  have hx := fetchI_ok hf
  have hxe := ho.x
  simp only [readyC, Bool.and_eq_true, rdyC, part65, part66, Bool.or_eq_true, Bool.not_eq_true', bne_iff_ne, ne_eq] at hq
  obtain ⟨⟨⟨_, qa⟩, qb⟩, qm⟩ := hq
  rw [hxe] at qa qb qm
  have hab := insOk_ab hx
  have ea : hasC (fetchI l u.pc).1.op 65 = true → argC c i (fetchI l u.pc).1.a = u.regs.getD (fetchI l u.pc).1.a.toNat (FT.zero .word) := fun h =>
    arg_eq hc ht hi hr hab.1.1 hab.1.2 (by rcases qa with q | q; rw [h] at q; cases q; exact q)
  have eb : hasC (fetchI l u.pc).1.op 66 = true → argC c i (fetchI l u.pc).1.b = u.regs.getD (fetchI l u.pc).1.b.toNat (FT.zero .word) := fun h =>
    arg_eq hc ht hi hr hab.2.1 hab.2.2 (by rcases qb with q | q; rw [h] at q; cases q; exact q)
  have hu := reach_ok hs ht hr
  have hlen : c.s.mem.words.length = u.mem.words.length := by rw [(len_of hs).2.1, (len_of hu.1).2.1]
  have em : memD c i (fetchI l u.pc).1 (argC c i (fetchI l u.pc).1.a) (argC c i (fetchI l u.pc).1.b) = memE u.mem (fetchI l u.pc).1 (u.regs.getD (fetchI l u.pc).1.a.toNat (FT.zero .word)) (u.regs.getD (fetchI l u.pc).1.b.toNat (FT.zero .word)) := by
    unfold memD memE
    by_cases h10 : (fetchI l u.pc).1.op = 10
    · rw [if_pos h10, if_pos h10, ea (by rw [h10]; decide)]
      generalize u.regs.getD (fetchI l u.pc).1.a.toNat (FT.zero .word) = y
      generalize IntKind.i64.wrap (y.n + (fetchI l u.pc).1.n) = n
      have hb : (c.rob.take i).any blkE = false := by
        rcases qm with q | q
        · exact absurd h10 q
        · simpa using q
      unfold foundC readM
      rw [readC_len hlen y n]
      by_cases h0 : readC u.mem y n = 0
      · have hn := readC_00 h0
        rw [(len_of hu.1).2.1] at hn
        obtain ⟨g1, g2⟩ := reach_mem (y := y) (n := n) hs ht hn.2.1 (by omega) i (by omega) u hr hb
        simp only [h0, ne_eq, not_true_eq_false, ↓reduceIte]
        rw [show (min (i : Int) c.rob.length).toNat = i by omega, g2, g1]
      · simp only [h0, ne_eq, not_false_eq_true, ↓reduceIte]
    · rw [if_neg h10, if_neg h10]
      by_cases h11 : (fetchI l u.pc).1.op = 11
      · rw [if_pos h11, if_pos h11, ea (by rw [h11]; decide), eb (by rw [h11]; decide), writeC_len hlen]
      · rw [if_neg h11, if_neg h11]
  unfold doneE doneX
  rw [hxe, ho.pc, em]
  have e : effE l u = if (memE u.mem (fetchI l u.pc).1 (u.regs.getD (fetchI l u.pc).1.a.toNat (FT.zero .word)) (u.regs.getD (fetchI l u.pc).1.b.toNat (FT.zero .word))).2 ≠ 0 then trapE (memE u.mem (fetchI l u.pc).1 (u.regs.getD (fetchI l u.pc).1.a.toNat (FT.zero .word)) (u.regs.getD (fetchI l u.pc).1.b.toNat (FT.zero .word))).2 u.pc else workE (fetchI l u.pc).1 u.pc (u.regs.getD (fetchI l u.pc).1.a.toNat (FT.zero .word)) (u.regs.getD (fetchI l u.pc).1.b.toNat (FT.zero .word)) (memE u.mem (fetchI l u.pc).1 (u.regs.getD (fetchI l u.pc).1.a.toNat (FT.zero .word)) (u.regs.getD (fetchI l u.pc).1.b.toNat (FT.zero .word))).1 := by
    unfold effE; simp only; rw [if_neg (by simpa using hf)]
  rw [e]
  split
  · rfl
  · exact workE_same hx ea eb (fun _ => rfl)
structure InvK (l : List Inst) (s : State) (k : Nat) (c : Core) : Prop where
  ok : coreOk c = true
  at_ : c.s = (inGo l k s).1
  good : c.s.trap = 0 → GdR l c.next c.stop c.rob c.s
  end_ : c.s.trap ≠ 0 → c.rob = []
theorem do_inv {l : List Inst} {s : State} {k : Nat} {c : Core} {i : Nat} (h : InvK l s k c) : InvK l s k (doC c i).1 := by
  cases hq : readyC c i with
  | false => rw [doC_nr h.ok hq]; exact h
  | true =>
    obtain ⟨hc, _, hi, hd⟩ := readyC_in hq
    have hi : i < c.rob.length := by omega
    have ht : c.s.trap = 0 := by
      by_cases e : c.s.trap = 0
      · exact e
      · have := h.end_ e; rw [this] at hi; exact absurd hi (Nat.not_lt_zero _)
    have ok := doC_ok (i := (i : Int)) h.ok
    have hg := h.good ht
    have e1 := get_split (z := FT.zero .entry) hi
    rw [e1] at hg
    have hat : c.rob.getD i (FT.zero .entry) = atE c i := rfl
    rw [hat] at hg
    have hp : (putAt c i) = c.rob.take i ++ ⟨(atE c i).pc, (atE c i).x, true, doneE c i, (atE c i).guess⟩ :: c.rob.drop (i + 1) := set_split hi
    have hp2 : (putAt c i).take ((i : Int).toNat + 1) = c.rob.take i ++ [⟨(atE c i).pc, (atE c i).x, true, doneE c i, (atE c i).guess⟩] := take_split hi
    rcases good_split _ _ hg with ⟨u, q1, ⟨o, _, g2⟩, q3⟩ | q
    · have he := done_eff ht hq q1 o
      have o2 : On l ⟨(atE c i).pc, (atE c i).x, true, doneE c i, (atE c i).guess⟩ u := ⟨o.pc, o.x, fun _ => rfl, fun _ => he⟩
      by_cases h3 : (doneE c i).trap = 0
      · by_cases h4 : (doneE c i).next = (atE c i).guess
        · rw [doC_0 h.ok hq h3 h4] at ok ⊢
          refine ⟨ok, h.at_, fun _ => ?_, fun e => absurd ht e⟩
          dsimp only
          rw [hp]
          exact q3 _ _ _ ⟨o2, fun e => absurd (by rw [← he]; exact h3) e, fun e _ => g2 e (.inr (by rw [← he]; exact h4))⟩
        · rw [doC_n h.ok hq h3 h4] at ok ⊢
          refine ⟨ok, h.at_, fun _ => ?_, fun e => absurd ht e⟩
          dsimp only
          rw [hp2]
          exact q3 _ _ _ ⟨o2, fun e => absurd (by rw [← he]; exact h3) e, fun _ _ => ⟨rfl, by rw [he]; rfl⟩⟩
      · rw [doC_t h.ok hq h3] at ok ⊢
        refine ⟨ok, h.at_, fun _ => ?_, fun e => absurd ht e⟩
        dsimp only
        rw [hp2]
        exact q3 _ _ _ ⟨o2, fun _ _ => ⟨rfl, rfl⟩, fun e => absurd e (by rw [← he]; exact h3)⟩
    · by_cases h3 : (doneE c i).trap = 0
      · by_cases h4 : (doneE c i).next = (atE c i).guess
        · rw [doC_0 h.ok hq h3 h4] at ok ⊢
          exact ⟨ok, h.at_, fun _ => by dsimp only; rw [hp]; exact q _ _ _, fun e => absurd ht e⟩
        · rw [doC_n h.ok hq h3 h4] at ok ⊢
          exact ⟨ok, h.at_, fun _ => by dsimp only; rw [hp2]; exact q _ _ _, fun e => absurd ht e⟩
      · rw [doC_t h.ok hq h3] at ok ⊢
        exact ⟨ok, h.at_, fun _ => by dsimp only; rw [hp2]; exact q _ _ _, fun e => absurd ht e⟩
theorem inGo_next {l : List Inst} {s : State} {k : Nat} (hs : stateOk s = true) : (inGo l (k + 1) s).1 = stepS l (inGo l k s).1 := by
  rw [inGo_add]
  generalize hv : (inGo l k s).1 = v
  have ok : stateOk v = true := by rw [← hv]; exact inGo_ok hs
  unfold inGo
  split
  · rfl
  · rename_i h; exact (stepS_trap ok h).symm
theorem commit_inv {l : List Inst} {s : State} {k : Nat} {c : Core} (hs : stateOk s = true) (h : InvK l s k c) (hr : c.rob ≠ []) (hd : (atE c 0).done = true) : InvK l s (k + 1) (commitC c).1 := by
  have ok := commitC_ok h.ok
  have ht : c.s.trap = 0 := by
    by_cases e : c.s.trap = 0
    · exact e
    · exact absurd (h.end_ e) hr
  have hso := (coreOk_iff.1 h.ok).1
  obtain ⟨e, r, he⟩ := List.exists_cons_of_ne_nil hr
  have hat : atE c 0 = e := by unfold atE; rw [he]; rfl
  have hg := h.good ht
  rw [he] at hg
  obtain ⟨o, g1, g2⟩ := hg
  rw [hat] at hd
  have hee := o.eff hd
  have hn := inGo_next (l := l) (k := k) hs
  rw [← h.at_] at hn
  have hcm := ncm (c := c) (by rw [he]; simp) (by rw [hat]; exact hd) ht
  by_cases h3 : (atE c 0).e.trap = 0
  · have h3' : (effE l c.s).trap = 0 := by rw [← hee, ← hat]; exact h3
    have hst := stepS_0 hso ht h3'
    by_cases h4 : 0 ≤ (atE c 0).e.drop
    · rw [commitC_d h.ok hcm h3 h4] at ok ⊢
      rw [hat, hee] at ok ⊢
      exact ⟨ok, by rw [hn, hst], fun _ => ⟨rfl, rfl⟩, fun _ => rfl⟩
    · rw [commitC_0 h.ok hcm h3 h4] at ok ⊢
      rw [hat, hee] at ok ⊢
      refine ⟨ok, by rw [hn, hst], fun _ => ?_, fun q => absurd (show c.s.trap = 0 from ht) q⟩
      dsimp only
      rw [he]
      exact g2 h3' (.inl hd)
  · rw [commitC_t h.ok hcm h3] at ok ⊢
    have h3' : ¬ (effE l c.s).trap = 0 := by rw [← hee, ← hat]; exact h3
    rw [hat, hee] at ok h3 ⊢
    refine ⟨ok, ?_, fun q => absurd q h3, fun _ => rfl⟩
    rw [hn, stepS_e hso ht h3']
    dsimp only
    rw [o.pc]
theorem gdr_app {l : List Inst} {nx nx' : Word} {st' : Bool} {e : Entry} (he : ∀ u : State, u.pc = nx → GdR l nx' st' [e] u) : ∀ {r : List Entry} {t : State}, GdR l nx false r t → GdR l nx' st' (r ++ [e]) t
  | [], t, ⟨_, h⟩ => he t h.symm
  | x :: r, t, ⟨h1, h2, h3⟩ => by
    refine ⟨h1, fun q1 q2 => ?_, fun q1 q2 => gdr_app he (h3 q1 q2)⟩
    have := (h2 q1 q2).2
    cases this
theorem pull_inv {l : List Inst} {s : State} {k : Nat} {c : Core} (h : InvK l s k c) : InvK l s k (pullC l c).1 ∧ (c.s.trap = 0 → (pullC l c).1.rob ≠ []) ∧ (pullC l c).1.s = c.s := by
  have ok := pullC_ok (l := l) h.ok
  by_cases hq : c.stop = true ∨ 6 ≤ c.rob.length ∨ c.s.trap ≠ 0
  · rw [pullC_st h.ok hq] at ok ⊢
    refine ⟨h, fun ht hr => ?_, rfl⟩
    have hg := h.good ht
    dsimp only at hr
    rw [hr] at hg hq
    rcases hq with q | q | q
    · rw [hg.1] at q; cases q
    · simp at q
    · exact q ht
  · have ht : c.s.trap = 0 := Classical.byContradiction fun q => hq (.inr (.inr q))
    have hst : c.stop = false := by simpa using fun q => hq (.inl q)
    have hg := h.good ht
    rw [hst] at hg
    by_cases h3 : (fetchI l c.next).2 = 0
    · rw [pullC_0 h.ok hq h3] at ok ⊢
      refine ⟨⟨ok, h.at_, fun _ => ?_, fun e => absurd ht e⟩, fun _ => by simp, rfl⟩
      refine gdr_app (fun u hu => ?_) hg
      refine ⟨⟨hu.symm, by rw [hu], fun q => absurd (by rw [hu]; exact h3) q, fun q => (by cases q)⟩, fun _ q => (by cases q), fun _ q => ⟨hst, ?_⟩⟩
      rcases q with q | q
      · cases q
      · exact q.symm
    · rw [pullC_t h.ok hq h3] at ok ⊢
      refine ⟨⟨ok, h.at_, fun _ => ?_, fun e => absurd ht e⟩, fun _ => by simp, rfl⟩
      refine gdr_app (fun u hu => ?_) hg
      have e1 : effE l u = trapE (fetchI l c.next).2 c.next := by rw [← hu]; exact effE_fe (by rw [hu]; exact h3)
      refine ⟨⟨hu.symm, ?_, fun _ => rfl, fun _ => e1.symm⟩, fun _ _ => ⟨rfl, rfl⟩, fun q => ?_⟩
      · rw [hu]
        unfold fetchI at h3 ⊢
        repeat' split
        all_goals first | rfl | (rename_i q1 q2; rw [if_neg q1, if_neg q2] at h3; exact absurd rfl h3)
      · rw [e1] at q; exact absurd q h3
theorem pullN_inv {l : List Inst} {s : State} {k : Nat} : ∀ (w : Nat) {c : Core}, InvK l s k c → InvK l s k (pullN l w c) ∧ (1 ≤ w → c.s.trap = 0 → (pullN l w c).rob ≠ []) ∧ (pullN l w c).s = c.s
  | 0, c, h => ⟨h, fun q => absurd q (by decide), rfl⟩
  | w + 1, c, h => by
    obtain ⟨h1, h2, h3⟩ := pull_inv h
    obtain ⟨q1, q2, q3⟩ := pullN_inv w h1
    refine ⟨q1, fun _ ht => ?_, q3.trans h3⟩
    cases w with
    | zero => exact h2 ht
    | succ w => exact q2 (by omega) (by rw [h3]; exact ht)
theorem ready_0 {c : Core} (h : coreOk c = true) (hr : c.rob ≠ []) (hd : (atE c 0).done = false) : readyC c 0 = true := by
  have hl : 0 < c.rob.length := List.length_pos_iff.2 hr
  have e : ∀ r : Int, (valueC c 0 r).2 = true := fun r => by
    have hs : source c.rob 0 r < 0 := by
      unfold source
      split
      · decide
      · rw [show (min (0 : Int) c.rob.length).toNat = 0 by omega]; exact (by decide : (-1 : Int) < 0)
    rw [valueC_no hs]
  have hi : inR 0 0 ((c.rob.length : Int) - 1) = true := inR_t.2 ⟨by decide, by omega⟩
  simp only [readyC, rdyC, h, hi, hd, e]
  simp
theorem do_head {c : Core} {i : Nat} (h : coreOk c = true) (hr : c.rob ≠ []) (hq : i = 0 ∨ (atE c 0).done = true) : (doC c i).1.rob ≠ [] ∧ (atE (doC c i).1 0).done = true := by
  obtain ⟨e, r, he⟩ := List.exists_cons_of_ne_nil hr
  cases hy : readyC c i with
  | false =>
    rw [doC_nr h hy]
    refine ⟨hr, ?_⟩
    rcases hq with rfl | q
    · cases hd : (atE c 0).done with
      | true => rfl
      | false => exact absurd ((ready_0 h hr hd).symm.trans hy) (by decide)
    · exact q
  | true =>
    obtain ⟨_, _, hi, _⟩ := readyC_in hy
    have hi : i < c.rob.length := by omega
    have key : ∃ x q, x.done = true ∧ (putAt c i) = x :: q := by
      unfold putAt
      rw [he]
      cases i with
      | zero => exact ⟨_, _, rfl, rfl⟩
      | succ j =>
        refine ⟨e, r.set j _, ?_, rfl⟩
        rcases hq with q | q
        · cases q
        · unfold atE at q; rw [he] at q; exact q
    obtain ⟨x, q, hx, hp⟩ := key
    have fin : ∀ (s : State) (nx : Word) (st : Bool) (g : List Int), (⟨s, putAt c i, nx, st, g⟩ : Core).rob ≠ [] ∧ (atE (⟨s, putAt c i, nx, st, g⟩ : Core) 0).done = true := fun s nx st g => by
      unfold atE; dsimp only; rw [hp]; exact ⟨by simp, hx⟩
    have fin2 : ∀ (s : State) (nx : Word) (st : Bool) (g : List Int), (⟨s, (putAt c i).take ((i : Int).toNat + 1), nx, st, g⟩ : Core).rob ≠ [] ∧ (atE (⟨s, (putAt c i).take ((i : Int).toNat + 1), nx, st, g⟩ : Core) 0).done = true := fun s nx st g => by
      unfold atE; dsimp only; rw [hp]; exact ⟨by simp, hx⟩
    by_cases h3 : (doneE c i).trap = 0
    · by_cases h4 : (doneE c i).next = (atE c i).guess
      · rw [doC_0 h hy h3 h4]; exact fin _ _ _ _
      · rw [doC_n h hy h3 h4]; exact fin2 _ _ _ _
    · rw [doC_t h hy h3]; exact fin2 _ _ _ _
theorem doGo_inv {l : List Inst} {s : State} {k : Nat} : ∀ (n i : Nat) {c : Core}, InvK l s k c → c.rob ≠ [] → (atE c 0).done = true → InvK l s k (doGo n i c) ∧ (doGo n i c).rob ≠ [] ∧ (atE (doGo n i c) 0).done = true
  | 0, i, c, h, h2, h3 => ⟨h, h2, h3⟩
  | n + 1, i, c, h, h2, h3 => by
    unfold doGo
    split
    · have q := do_head (i := i) h.ok h2 (.inr h3)
      exact doGo_inv n (i + 1) (do_inv h) q.1 q.2
    · exact ⟨h, h2, h3⟩
theorem doAll_inv {l : List Inst} {s : State} {k : Nat} {c : Core} (h : InvK l s k c) (h2 : c.rob ≠ []) : InvK l s k (doAll c) ∧ (doAll c).rob ≠ [] ∧ (atE (doAll c) 0).done = true := by
  unfold doAll
  rw [doGo_go (n := 7) (i := 0) (c := c) (List.length_pos_iff.2 h2)]
  have q := do_head (i := 0) h.ok h2 (.inl rfl)
  exact doGo_inv 7 1 (do_inv h) q.1 q.2
theorem settle_inv {l : List Inst} {s : State} (hs : stateOk s = true) : ∀ (m : Nat) {k : Nat} {c : Core} {n : Int}, InvK l s k c → ∃ j, k ≤ j ∧ InvK l s j (settleGo m c n).1 ∧ (1 ≤ m → c.rob ≠ [] → k + 1 ≤ j)
  | 0, k, c, n, h => ⟨k, Nat.le_refl _, h, fun q => absurd q (by decide)⟩
  | m + 1, k, c, n, h => by
    by_cases hr : c.rob = []
    · rw [settleGo_end (by rw [hr]; simp)]
      exact ⟨k, Nat.le_refl _, h, fun _ q => absurd hr q⟩
    · rw [settleGo_go (List.length_pos_iff.2 hr)]
      obtain ⟨q1, q2, q3⟩ := doAll_inv h hr
      obtain ⟨j, j1, j2, j3⟩ := settle_inv hs m (n := if (commitC (doAll c)).2 then n + 1 else n) (commit_inv hs q1 q2 q3)
      exact ⟨j, by omega, j2, fun _ _ => j1⟩
theorem out_inv {l : List Inst} {s : State} {w : Nat} (hs : stateOk s = true) (hw : 1 ≤ w) : ∀ (m : Nat) {k : Nat} {c : Core} {a : Int}, InvK l s k c → ∃ j, InvK l s j (outGo l w m c a).1 ∧ ((outGo l w m c a).1.s.trap ≠ 0 ∨ k + m ≤ j)
  | 0, k, c, a, h => ⟨k, h, .inr (Nat.le_refl _)⟩
  | m + 1, k, c, a, h => by
    unfold outGo
    split
    · rename_i ht
      obtain ⟨p1, p2, p3⟩ := pullN_inv w h
      obtain ⟨j, j1, j2, j3⟩ := settle_inv hs 600 (n := 0) p1
      have e : settle (pullN l w c) = settleGo 600 (pullN l w c) 0 := by unfold settle; rw [if_neg (by rw [p1.ok]; decide)]
      rw [← e] at j2
      obtain ⟨i, i1, i2⟩ := out_inv hs hw m (a := a + (settle (pullN l w c)).2) j2
      have := j3 (by decide) (p2 hw ht)
      exact ⟨i, i1, by rcases i2 with q | q; exact .inl q; exact .inr (by omega)⟩
    · rename_i ht; exact ⟨k, h, .inl ht⟩
theorem inv_new {l : List Inst} {s : State} (hs : stateOk s = true) (ht : s.trap = 0) : InvK l s 0 (coreNew s) := by
  have ok := coreNew_ok hs
  have e : coreNew s = ⟨s, [], s.pc, false, guessNew⟩ := if_pos hs
  rw [e] at ok ⊢
  exact ⟨ok, rfl, fun _ => ⟨rfl, rfl⟩, fun _ => rfl⟩
theorem inGo_fix {l : List Inst} {v : State} (h : ¬ v.trap = 0) : ∀ k, (inGo l k v).1 = v
  | 0 => rfl
  | k + 1 => by unfold inGo; rw [if_neg h]
theorem out_in {l : List Inst} {s : State} {w : Int} (hs : stateOk s = true) (ht : s.trap = 0) {n : Nat} (hn : n ≤ 600) (he : (inGo l n s).1.trap ≠ 0) : (outOrder l s w n).1 = (inOrder l s n).1 := by
  have hw : 1 ≤ (wideI w).toNat := by
    unfold wideI
    split
    · rename_i q; have := inR_t.1 q; omega
    · decide
  have em : (min (n : Int) 600).toNat = n := by omega
  have e2 : (inOrder l s n).1 = (inGo l n s).1 := by unfold inOrder; rw [if_neg (by rw [hs]; decide), em]
  have e1 : (outOrder l s w n).1 = (outGo l (wideI w).toNat n (coreNew s) 0).1.s := by unfold outOrder; rw [if_neg (by rw [hs]; decide), em]
  rw [e1, e2]
  obtain ⟨j, q, hj⟩ := out_inv hs hw n (a := 0) (inv_new (l := l) hs ht)
  rw [q.at_] at hj ⊢
  by_cases c : n ≤ j
  · rw [show j = n + (j - n) by omega, inGo_add, inGo_fix he]
  · have hj2 := hj.resolve_right (by omega)
    rw [show n = j + (n - j) by omega, inGo_add (k := j), inGo_fix hj2]
theorem line_step {l : List Inst} {s : State} (hs : stateOk s = true) (hl : ∀ x ∈ l, x.op ≠ 12 ∧ x.op ≠ 13) (hlen : l.length ≤ 1000) (ht : s.trap = 0) (h : (stepS l s).trap = 0) : (stepS l s).pc.n = s.pc.n + 1 ∧ 0 ≤ s.pc.n ∧ s.pc.n < l.length := by
  have he : (effE l s).trap = 0 := by rw [← stepS_tr hs ht]; exact h
  obtain ⟨x, a, b, got, q⟩ := effE_parts he
  have hf := q.fetch
  have hin : inR s.pc.n 0 ((l.length : Int) - 1) = true ∧ x = l.getD s.pc.n.toNat (FT.zero .inst) := by
    unfold fetchI at hf
    split at hf
    · rename_i h1; exact absurd (congrArg Prod.snd hf) h1
    · split at hf
      · exact absurd (congrArg Prod.snd hf) (by show ¬ (4 : Int) = 0; decide)
      · rename_i h2
        exact ⟨by simpa using fun q => h2 (.inl q), (congrArg Prod.fst hf).symm⟩
  have hr := inR_t.1 hin.1
  have hx : x ∈ l := by
    rw [hin.2, List.getD_eq_getElem?_getD, List.getElem?_eq_getElem (show s.pc.n.toNat < l.length by omega)]
    exact List.getElem_mem _
  obtain ⟨h12, h13⟩ := hl x hx
  rw [stepS_0 hs ht he]
  refine ⟨?_, hr.1, by omega⟩
  show (effE l s).next.n = _
  rw [q.eff] at he ⊢
  have hnx : (workE x s.pc a b got).next = nextW s.pc := by
    unfold workE at he ⊢
    rw [if_neg h12, if_neg h13] at he ⊢
    split
    · rfl
    · rename_i h11
      rw [if_neg h11] at he
      split
      · rename_i h14
        rw [if_pos h14] at he
        split
        · rename_i h2; rw [if_pos h2] at he; exact absurd he h2
        · rfl
      · rename_i h14
        rw [if_neg h14] at he
        split
        · rename_i h15; rw [if_pos h15] at he; exact absurd he (by show ¬ (5 : Int) = 0; decide)
        · split <;> rfl
  rw [hnx]
  unfold nextW pointW
  rw [wrap_id (by omega) (by omega)]
  split
  · exact and65_id ⟨by omega, by omega⟩
  · exact and65_id ⟨by omega, by omega⟩
theorem line_ends {l : List Inst} {s : State} (hs : stateOk s = true) (hl : ∀ x ∈ l, x.op ≠ 12 ∧ x.op ≠ 13) (hlen : l.length ≤ 1000) (h0 : s.pc.n = 0) : ∀ k, (inGo l k s).1.trap = 0 → (inGo l k s).1.pc.n = k ∧ k ≤ l.length
  | 0, _ => ⟨h0, Nat.zero_le _⟩
  | k + 1, h => by
    rw [inGo_next hs] at h ⊢
    have ok : stateOk (inGo l k s).1 = true := inGo_ok hs
    have ht : (inGo l k s).1.trap = 0 := by
      by_cases q : (inGo l k s).1.trap = 0
      · exact q
      · rw [stepS_trap ok q] at h; exact h
    obtain ⟨q1, q2⟩ := line_ends hs hl hlen h0 k ht
    obtain ⟨r1, r2, r3⟩ := line_step ok hl hlen ht h
    omega

theorem settle_no {c : Core} (h : coreOk c = false) : settle c = (zCore, 0) := if_pos h
theorem settle_yes {c : Core} (h : coreOk c = true) : settle c = settleGo 600 c 0 := if_neg (by rw [h]; decide)
def coC (c : Core) (i : Nat) : List Cell := [.sl false .word i, .int .i64 c.s.pc.n, .bool c.s.pc.is, .int .i64 c.s.pc.key.base, .int .i64 c.s.pc.key.top, .int .i64 c.s.pc.key.perms, .int .i64 c.s.pc.key.sealed, .sl false .word (i + 1), .sl false .bool (i + 2), .int .i64 c.s.trap, .sl false .entry (i + 3), .int .i64 c.next.n, .bool c.next.is, .int .i64 c.next.key.base, .int .i64 c.next.key.top, .int .i64 c.next.key.perms, .int .i64 c.next.key.sealed, .bool c.stop, .sl false (.int .i64) (i + 4)]

def lb_impl_Settle_0 : PC := .seq (.seq (.reg [.s (.mv 28 (.t 9)), .s (.fa 29 (.t 6) 10), .s (.load 30 false 1 (.t 29)), .s (.len 31 false (.t 30)), .s (.bin 32 .lss (.t 28) (.t 31))]) (.cond (.t 32) (.skip) (.exit 2))) (.seq (.blk 3 (.reg [.s (.load 36 true 19 (.t 6)), .s (.mv 37 (.t 9)), .s (.call (some 38) 75 [(.t 36), (.t 37)]), .s (.mv 35 (.t 38)), .s (.ext 39 (.t 35) 0), .s (.ext 40 (.t 35) 1), .s (.store 19 (.t 6) (.t 39))])) (.reg [.s (.mv 33 (.t 9)), .s (.bin 34 .add (.t 33) (.k (.v (.c (.int .i64 1))))), .s (.mv 9 (.t 34))]))
def lb_impl_Settle_1 : PC := .seq (.seq (.reg [.s (.mv 18 (.t 8)), .s (.bin 19 .lss (.t 18) (.k (.v (.c (.int .i64 600))))), .s (.mv 20 (.t 19)), .g 20 true (some 21) (.fa 21 (.t 6) 10), .g 20 true (some 22) (.load 22 false 1 (.t 21)), .g 20 true (some 23) (.len 23 false (.t 22)), .g 20 true (some 24) (.bin 24 .gtr (.t 23) (.k (.v (.c (.int .i64 0))))), .s (.pick 25 (.t 20) (.t 24) (.k (.v (.c .ff))))]) (.cond (.t 25) (.skip) (.exit 0))) (.seq (.blk 1 (.seq (.seq (.reg [.s (.mv 9 (.k (.v (.c (.int .i64 0)))))]) (.blk 2 (.loop [4, 6, 7, 8, 9] lb_impl_Settle_0))) (.seq (.reg [.s (.load 42 true 19 (.t 6)), .s (.call (some 43) 76 [(.t 42)]), .s (.mv 41 (.t 43)), .s (.ext 44 (.t 41) 0), .s (.ext 45 (.t 41) 1), .s (.alloc 10 [.nils .word, .int .i64 0, .ff, .int .i64 0, .int .i64 0, .int .i64 0, .int .i64 0, .nils .word, .nils .bool, .int .i64 0, .nils .entry, .int .i64 0, .ff, .int .i64 0, .int .i64 0, .int .i64 0, .int .i64 0, .ff, .nils (.int .i64)]), .s (.store 19 (.t 10) (.t 44)), .s (.mv 11 (.t 45))]) (.seq (.reg [.s (.load 46 true 19 (.t 10)), .s (.store 19 (.t 6) (.t 46))]) (.seq (.reg [.s (.mv 47 (.t 11))]) (.cond (.t 47) (.reg [.s (.mv 48 (.t 7)), .s (.bin 49 .add (.t 48) (.k (.v (.c (.int .i64 1))))), .s (.mv 7 (.t 49))]) (.skip))))))) (.reg [.s (.mv 26 (.t 8)), .s (.bin 27 .add (.t 26) (.k (.v (.c (.int .i64 1))))), .s (.mv 8 (.t 27))]))
def pf_impl_Settle : PF := ⟨[.c 4 true 19, .t 5], .seq (.reg [.s (.box 3 (.t 1)), .s (.alloc 4 [.nils .word, .int .i64 0, .ff, .int .i64 0, .int .i64 0, .int .i64 0, .int .i64 0, .nils .word, .nils .bool, .int .i64 0, .nils .entry, .int .i64 0, .ff, .int .i64 0, .int .i64 0, .int .i64 0, .int .i64 0, .ff, .nils (.int .i64)]), .s (.mv 5 (.k (.v (.c (.int .i64 0)))))]) (.seq (.seq (.reg [.s (.load 12 true 19 (.t 3)), .s (.call (some 13) 70 [(.t 12)]), .s (.bnot 14 (.t 13))]) (.cond (.t 14) (.seq (.reg [.s (.build 15 [.nils .word, .int .i64 0, .ff, .int .i64 0, .int .i64 0, .int .i64 0, .int .i64 0, .nils .word, .nils .bool, .int .i64 0, .nils .entry, .int .i64 0, .ff, .int .i64 0, .int .i64 0, .int .i64 0, .int .i64 0, .ff, .nils (.int .i64)] []), .s (.store 19 (.t 4) (.t 15)), .s (.mv 5 (.k (.v (.c (.int .i64 0)))))]) (.ret)) (.skip))) (.seq (.reg [.s (.load 16 true 19 (.t 3)), .s (.call (some 17) 71 [(.t 16)]), .s (.alloc 6 [.nils .word, .int .i64 0, .ff, .int .i64 0, .int .i64 0, .int .i64 0, .int .i64 0, .nils .word, .nils .bool, .int .i64 0, .nils .entry, .int .i64 0, .ff, .int .i64 0, .int .i64 0, .int .i64 0, .int .i64 0, .ff, .nils (.int .i64)]), .s (.store 19 (.t 6) (.t 17))]) (.seq (.reg [.s (.mv 7 (.k (.v (.c (.int .i64 0)))))]) (.seq (.seq (.reg [.s (.mv 8 (.k (.v (.c (.int .i64 0)))))]) (.blk 0 (.loop [4, 6, 7, 8] lb_impl_Settle_1))) (.seq (.reg [.s (.load 50 true 19 (.t 6)), .s (.mv 51 (.t 7)), .s (.store 19 (.t 4) (.t 50)), .s (.mv 5 (.t 51))]) (.ret))))))⟩
def c_impl_Settle : Fun := ⟨39, [], fun ts K => as2 ts fun t0 t1 => arC (pL .inst) t0 fun l => arG pCoreT t1 fun c => chk (LCore c 2147483647) (K (numT (settle c)) [])⟩
theorem run_impl_Settle (FU : Nat) (l : List (FT.Ty .inst)) (c : Core) (hpre : LCore c 2147483647) : runK [c_impl_CoreOk, c_impl_cloneCore, c_impl_Do, c_impl_Commit] (700 + FU) [] pf_impl_Settle [tL false .inst l, tG (c.tc false [])] fun r o => r = numT (settle c) ∧ o = [] := by
  conv => whnf
  repeat' (first | (refine sel_i (fun h => ?_) (fun h => ?_) <;> conv => whnf) | (refine chk_c ?_ ?_ <;> conv => whnf) | (refine And.intro ?_ rfl) | (refine And.intro ?_ ?_ <;> conv => whnf))
  all_goals (try simp only [etaKey, etaWord, etaMemory, etaState, etaCore, Bool.not_eq_true', Bool.not_eq_false', decide_eq_true_eq, decide_eq_false_iff_not, gt_iff_lt] at *)
  all_goals first
    | (refine ⟨?_⟩; exact hpre)
    | (rw [settle_no (by assumption)]; rfl)
    | skip
  have hok : coreOk c = true := by assumption
  rw [settle_yes hok]
  have hs0 : Sz7 c := (fit_ok hok).sz
  refine loop (α := Nat × Core × Nat) (fun ⟨k, d, m⟩ => ⟨[(4, .v (.c (.ptr 0 0))), (6, .v (.c (.ptr 1 0))), (7, .v (.c (.int .i64 (m : Int)))), (8, .v (.c (.int .i64 (k : Int))))],
        [(6, some (.flat true (.int .i64) none d.guesses)), (5, some (.flat true .entry none d.rob)), (4, some (.flat true .bool none d.s.mem.gone)), (3, some (.flat true .word none d.s.mem.words)), (2, some (.flat true .word none d.s.regs)), (1, some (.box true (coC d 2))), (0, some (.box true [.nils .word, .int .i64 0, .ff, .int .i64 0, .int .i64 0, .int .i64 0, .int .i64 0, .nils .word, .nils .bool, .int .i64 0, .nils .entry, .int .i64 0, .ff, .int .i64 0, .int .i64 0, .int .i64 0, .int .i64 0, .ff, .nils (.int .i64)]))], nums.tail.tail.tail.tail.tail.tail.tail, [], false, []⟩)
    (fun q => q.1 ≤ 600 ∧ Sz7 q.2.1 ∧ q.2.2 ≤ q.1 ∧ settleGo 600 c 0 = settleGo (600 - q.1) q.2.1 q.2.2) (fun q => 600 - q.1) (fun q R hI hR => ?_) (0, c, 0) _ ⟨by simp, hs0, by simp, rfl⟩ (by show 600 - 0 < 700 + FU; omega)
  obtain ⟨k, d, m⟩ := q
  obtain ⟨hk, hS, hm, hG⟩ := hI
  dsimp only at hk hS hm hG hR ⊢
  have hS1 := hS.1
  have hS2 := hS.2
  have w3 : IntKind.i64.wrap ((k : Int) + 1) = ((k + 1 : Nat) : Int) := by rw [wrap_id (by omega) (by omega)]; rfl
  have w4 : IntKind.i64.wrap ((m : Int) + 1) = ((m + 1 : Nat) : Int) := by rw [wrap_id (by omega) (by omega)]; rfl
  conv => whnf
  repeat' (first | (refine sel_i (fun h => ?_) (fun h => ?_) <;> conv => whnf) | (refine chk_c ?_ ?_ <;> conv => whnf) | (refine And.intro ?_ rfl) | (refine And.intro ?_ ?_ <;> conv => whnf))
  all_goals (try simp only [etaKey, etaWord, etaInst, etaEff, etaEntry, etaMemory, etaState, etaCore, w3, w4, Int.toNat_natCast, gt_iff_lt, decide_eq_true_eq, decide_eq_false_iff_not, Bool.and_eq_true, Bool.and_eq_false_iff] at *)
  all_goals first
    | (rw [hG, settleGo_end (by omega)]; rfl)
    | (rw [hG, show 600 - k = 0 by omega]; rfl)
    | skip
  have hr0 : 0 < d.rob.length := by omega
  have hx : settleGo (600 - k) d (m : Int) = settleGo (600 - (k + 1)) (commitC (doAll d)).1 (if (commitC (doAll d)).2 then (m : Int) + 1 else (m : Int)) := by
    rw [show 600 - k = (600 - (k + 1)) + 1 by omega]; exact settleGo_go hr0
  rw [hx] at hG
  have hdo : doAll d = doGo 8 0 d := rfl
  generalize doAll d = D at *
  refine loop (α := Nat × Core) (fun ⟨i, e⟩ => ⟨[(4, .v (.c (.ptr 0 0))), (6, .v (.c (.ptr 1 0))), (7, .v (.c (.int .i64 (m : Int)))), (8, .v (.c (.int .i64 (k : Int)))), (9, .v (.c (.int .i64 (i : Int))))],
        [(6, some (.flat true (.int .i64) none e.guesses)), (5, some (.flat true .entry none e.rob)), (4, some (.flat true .bool none e.s.mem.gone)), (3, some (.flat true .word none e.s.mem.words)), (2, some (.flat true .word none e.s.regs)), (1, some (.box true (coC e 2))), (0, some (.box true [.nils .word, .int .i64 0, .ff, .int .i64 0, .int .i64 0, .int .i64 0, .int .i64 0, .nils .word, .nils .bool, .int .i64 0, .nils .entry, .int .i64 0, .ff, .int .i64 0, .int .i64 0, .int .i64 0, .int .i64 0, .ff, .nils (.int .i64)]))], nums.tail.tail.tail.tail.tail.tail.tail, [], false, []⟩)
    (fun q => q.1 ≤ 7 ∧ Sz7 q.2 ∧ D = doGo (8 - q.1) q.1 q.2) (fun q => 8 - q.1) (fun q R2 hI2 hR2 => ?_) (0, d) _ ⟨by simp, hS, hdo⟩ (by show 8 - 0 < 700 + FU; omega)
  obtain ⟨i, e⟩ := q
  obtain ⟨hi, hE, hD⟩ := hI2
  dsimp only at hi hE hD hR2 ⊢
  have hE1 := hE.1
  have hE2 := hE.2
  have v3 : IntKind.i64.wrap ((i : Int) + 1) = ((i + 1 : Nat) : Int) := by rw [wrap_id (by omega) (by omega)]; rfl
  have v4 : IntKind.i64.wrap ((m : Int) + 1) = ((m + 1 : Nat) : Int) := by rw [wrap_id (by omega) (by omega)]; rfl
  have v5 : IntKind.i64.wrap ((k : Int) + 1) = ((k + 1 : Nat) : Int) := by rw [wrap_id (by omega) (by omega)]; rfl
  clear hpre hs0 hS hS1 hS2
  conv => whnf
  repeat' (first | (refine sel_i (fun h => ?_) (fun h => ?_) <;> conv => whnf) | (refine chk_c ?_ ?_ <;> conv => whnf) | (refine And.intro ?_ rfl) | (refine And.intro ?_ ?_ <;> conv => whnf))
  all_goals (try simp only [etaKey, etaWord, etaInst, etaEff, etaEntry, etaMemory, etaState, etaCore, v3, v4, v5, Int.toNat_natCast, gt_iff_lt, decide_eq_true_eq, decide_eq_false_iff_not, Bool.and_eq_true, Bool.and_eq_false_iff] at *)
  all_goals first
    | (refine ⟨?_⟩; exact hE1)
    | (exact hR2 (i + 1, (doC e (i : Int)).1) ⟨by dsimp only; omega, do_sz, by dsimp only; rw [hD, show 8 - i = (8 - (i + 1)) + 1 by omega]; exact doGo_go (by omega)⟩ (by dsimp only; omega))
    | (have hDe : D = e := by rw [hD, doGo_end (by omega)]
       subst hDe
       have hb : (commitC D).2 = true := by assumption
       rw [hb, if_pos rfl] at hG
       exact hR (k + 1, (commitC D).1, m + 1) ⟨by dsimp only; omega, commit_sz, by dsimp only; omega, by dsimp only; rw [hG]; rfl⟩ (by dsimp only; omega))
    | (have hDe : D = e := by rw [hD, doGo_end (by omega)]
       subst hDe
       have hb : (commitC D).2 = false := by assumption
       rw [hb, if_neg (by decide)] at hG
       exact hR (k + 1, (commitC D).1, m) ⟨by dsimp only; omega, commit_sz, by dsimp only; omega, by dsimp only; rw [hG]⟩ (by dsimp only; omega))
    | trace_state
theorem ok_impl_Settle : FunOk Tryz.prog c_impl_Settle := funOk (E := [c_impl_CoreOk, c_impl_cloneCore, c_impl_Do, c_impl_Commit]) (envOk_cons ok_impl_CoreOk (envOk_cons ok_impl_cloneCore (envOk_cons ok_impl_Do (envOk_cons ok_impl_Commit (envOk_nil))))) mixd Tryz.func39 (pf := pf_impl_Settle) (by kernel_rfl) fun ts K h => by
  obtain ⟨t0, t1, e0, h⟩ := as2_out h
  subst e0
  obtain ⟨l, e1, hq⟩ := arC_out (rd_l .inst) h
  clear h
  subst e1
  have h := hq
  clear hq
  obtain ⟨c, e1, hq⟩ := arG_out rd_core h
  clear h
  subst e1
  have h := hq
  clear hq
  obtain ⟨hpre, h⟩ := chk_o h
  exact ⟨_, _, h, Nat.le_of_ble_eq_true (show Nat.ble 2 Tryz.f39.ntmps = true by kernel_rfl), _, run_impl_Settle 0 l c hpre⟩

def lb_spec_Settle_0 : PC := .seq (.seq (.reg [.s (.mv 28 (.t 9)), .s (.fa 29 (.t 6) 10), .s (.load 30 false 1 (.t 29)), .s (.len 31 false (.t 30)), .s (.bin 32 .lss (.t 28) (.t 31))]) (.cond (.t 32) (.skip) (.exit 2))) (.seq (.blk 3 (.reg [.s (.load 36 true 19 (.t 6)), .s (.mv 37 (.t 9)), .s (.call (some 38) 88 [(.t 36), (.t 37)]), .s (.mv 35 (.t 38)), .s (.ext 39 (.t 35) 0), .s (.ext 40 (.t 35) 1), .s (.store 19 (.t 6) (.t 39))])) (.reg [.s (.mv 33 (.t 9)), .s (.bin 34 .add (.t 33) (.k (.v (.c (.int .i64 1))))), .s (.mv 9 (.t 34))]))
def lb_spec_Settle_1 : PC := .seq (.seq (.reg [.s (.mv 18 (.t 8)), .s (.bin 19 .lss (.t 18) (.k (.v (.c (.int .i64 600))))), .s (.mv 20 (.t 19)), .g 20 true (some 21) (.fa 21 (.t 6) 10), .g 20 true (some 22) (.load 22 false 1 (.t 21)), .g 20 true (some 23) (.len 23 false (.t 22)), .g 20 true (some 24) (.bin 24 .gtr (.t 23) (.k (.v (.c (.int .i64 0))))), .s (.pick 25 (.t 20) (.t 24) (.k (.v (.c .ff))))]) (.cond (.t 25) (.skip) (.exit 0))) (.seq (.blk 1 (.seq (.seq (.reg [.s (.mv 9 (.k (.v (.c (.int .i64 0)))))]) (.blk 2 (.loop [4, 6, 7, 8, 9] lb_spec_Settle_0))) (.seq (.reg [.s (.load 42 true 19 (.t 6)), .s (.call (some 43) 89 [(.t 42)]), .s (.mv 41 (.t 43)), .s (.ext 44 (.t 41) 0), .s (.ext 45 (.t 41) 1), .s (.alloc 10 [.nils .word, .int .i64 0, .ff, .int .i64 0, .int .i64 0, .int .i64 0, .int .i64 0, .nils .word, .nils .bool, .int .i64 0, .nils .entry, .int .i64 0, .ff, .int .i64 0, .int .i64 0, .int .i64 0, .int .i64 0, .ff, .nils (.int .i64)]), .s (.store 19 (.t 10) (.t 44)), .s (.mv 11 (.t 45))]) (.seq (.reg [.s (.load 46 true 19 (.t 10)), .s (.store 19 (.t 6) (.t 46))]) (.seq (.reg [.s (.mv 47 (.t 11))]) (.cond (.t 47) (.reg [.s (.mv 48 (.t 7)), .s (.bin 49 .add (.t 48) (.k (.v (.c (.int .i64 1))))), .s (.mv 7 (.t 49))]) (.skip))))))) (.reg [.s (.mv 26 (.t 8)), .s (.bin 27 .add (.t 26) (.k (.v (.c (.int .i64 1))))), .s (.mv 8 (.t 27))]))
def pf_spec_Settle : PF := ⟨[.c 4 true 19, .t 5], .seq (.reg [.s (.box 3 (.t 1)), .s (.alloc 4 [.nils .word, .int .i64 0, .ff, .int .i64 0, .int .i64 0, .int .i64 0, .int .i64 0, .nils .word, .nils .bool, .int .i64 0, .nils .entry, .int .i64 0, .ff, .int .i64 0, .int .i64 0, .int .i64 0, .int .i64 0, .ff, .nils (.int .i64)]), .s (.mv 5 (.k (.v (.c (.int .i64 0)))))]) (.seq (.seq (.reg [.s (.load 12 true 19 (.t 3)), .s (.call (some 13) 83 [(.t 12)]), .s (.bnot 14 (.t 13))]) (.cond (.t 14) (.seq (.reg [.s (.build 15 [.nils .word, .int .i64 0, .ff, .int .i64 0, .int .i64 0, .int .i64 0, .int .i64 0, .nils .word, .nils .bool, .int .i64 0, .nils .entry, .int .i64 0, .ff, .int .i64 0, .int .i64 0, .int .i64 0, .int .i64 0, .ff, .nils (.int .i64)] []), .s (.store 19 (.t 4) (.t 15)), .s (.mv 5 (.k (.v (.c (.int .i64 0)))))]) (.ret)) (.skip))) (.seq (.reg [.s (.load 16 true 19 (.t 3)), .s (.call (some 17) 84 [(.t 16)]), .s (.alloc 6 [.nils .word, .int .i64 0, .ff, .int .i64 0, .int .i64 0, .int .i64 0, .int .i64 0, .nils .word, .nils .bool, .int .i64 0, .nils .entry, .int .i64 0, .ff, .int .i64 0, .int .i64 0, .int .i64 0, .int .i64 0, .ff, .nils (.int .i64)]), .s (.store 19 (.t 6) (.t 17))]) (.seq (.reg [.s (.mv 7 (.k (.v (.c (.int .i64 0)))))]) (.seq (.seq (.reg [.s (.mv 8 (.k (.v (.c (.int .i64 0)))))]) (.blk 0 (.loop [4, 6, 7, 8] lb_spec_Settle_1))) (.seq (.reg [.s (.load 50 true 19 (.t 6)), .s (.mv 51 (.t 7)), .s (.store 19 (.t 4) (.t 50)), .s (.mv 5 (.t 51))]) (.ret))))))⟩
def c_spec_Settle : Fun := ⟨46, [], fun ts K => as2 ts fun t0 t1 => arC (pL .inst) t0 fun l => arG pCoreT t1 fun c => chk (LCore c 2147483647) (K (numT (settle c)) [])⟩
theorem run_spec_Settle (FU : Nat) (l : List (FT.Ty .inst)) (c : Core) (hpre : LCore c 2147483647) : runK [c_spec_CoreOk, c_spec_l12Copy, c_spec_Do, c_spec_Commit] (700 + FU) [] pf_spec_Settle [tL false .inst l, tG (c.tc false [])] fun r o => r = numT (settle c) ∧ o = [] := by
  conv => whnf
  repeat' (first | (refine sel_i (fun h => ?_) (fun h => ?_) <;> conv => whnf) | (refine chk_c ?_ ?_ <;> conv => whnf) | (refine And.intro ?_ rfl) | (refine And.intro ?_ ?_ <;> conv => whnf))
  all_goals (try simp only [etaKey, etaWord, etaMemory, etaState, etaCore, Bool.not_eq_true', Bool.not_eq_false', decide_eq_true_eq, decide_eq_false_iff_not, gt_iff_lt] at *)
  all_goals first
    | (refine ⟨?_⟩; exact hpre)
    | (rw [settle_no (by assumption)]; rfl)
    | skip
  have hok : coreOk c = true := by assumption
  rw [settle_yes hok]
  have hs0 : Sz7 c := (fit_ok hok).sz
  refine loop (α := Nat × Core × Nat) (fun ⟨k, d, m⟩ => ⟨[(4, .v (.c (.ptr 0 0))), (6, .v (.c (.ptr 1 0))), (7, .v (.c (.int .i64 (m : Int)))), (8, .v (.c (.int .i64 (k : Int))))],
        [(6, some (.flat true (.int .i64) none d.guesses)), (5, some (.flat true .entry none d.rob)), (4, some (.flat true .bool none d.s.mem.gone)), (3, some (.flat true .word none d.s.mem.words)), (2, some (.flat true .word none d.s.regs)), (1, some (.box true (coC d 2))), (0, some (.box true [.nils .word, .int .i64 0, .ff, .int .i64 0, .int .i64 0, .int .i64 0, .int .i64 0, .nils .word, .nils .bool, .int .i64 0, .nils .entry, .int .i64 0, .ff, .int .i64 0, .int .i64 0, .int .i64 0, .int .i64 0, .ff, .nils (.int .i64)]))], nums.tail.tail.tail.tail.tail.tail.tail, [], false, []⟩)
    (fun q => q.1 ≤ 600 ∧ Sz7 q.2.1 ∧ q.2.2 ≤ q.1 ∧ settleGo 600 c 0 = settleGo (600 - q.1) q.2.1 q.2.2) (fun q => 600 - q.1) (fun q R hI hR => ?_) (0, c, 0) _ ⟨by simp, hs0, by simp, rfl⟩ (by show 600 - 0 < 700 + FU; omega)
  obtain ⟨k, d, m⟩ := q
  obtain ⟨hk, hS, hm, hG⟩ := hI
  dsimp only at hk hS hm hG hR ⊢
  have hS1 := hS.1
  have hS2 := hS.2
  have w3 : IntKind.i64.wrap ((k : Int) + 1) = ((k + 1 : Nat) : Int) := by rw [wrap_id (by omega) (by omega)]; rfl
  have w4 : IntKind.i64.wrap ((m : Int) + 1) = ((m + 1 : Nat) : Int) := by rw [wrap_id (by omega) (by omega)]; rfl
  conv => whnf
  repeat' (first | (refine sel_i (fun h => ?_) (fun h => ?_) <;> conv => whnf) | (refine chk_c ?_ ?_ <;> conv => whnf) | (refine And.intro ?_ rfl) | (refine And.intro ?_ ?_ <;> conv => whnf))
  all_goals (try simp only [etaKey, etaWord, etaInst, etaEff, etaEntry, etaMemory, etaState, etaCore, w3, w4, Int.toNat_natCast, gt_iff_lt, decide_eq_true_eq, decide_eq_false_iff_not, Bool.and_eq_true, Bool.and_eq_false_iff] at *)
  all_goals first
    | (rw [hG, settleGo_end (by omega)]; rfl)
    | (rw [hG, show 600 - k = 0 by omega]; rfl)
    | skip
  have hr0 : 0 < d.rob.length := by omega
  have hx : settleGo (600 - k) d (m : Int) = settleGo (600 - (k + 1)) (commitC (doAll d)).1 (if (commitC (doAll d)).2 then (m : Int) + 1 else (m : Int)) := by
    rw [show 600 - k = (600 - (k + 1)) + 1 by omega]; exact settleGo_go hr0
  rw [hx] at hG
  have hdo : doAll d = doGo 8 0 d := rfl
  generalize doAll d = D at *
  refine loop (α := Nat × Core) (fun ⟨i, e⟩ => ⟨[(4, .v (.c (.ptr 0 0))), (6, .v (.c (.ptr 1 0))), (7, .v (.c (.int .i64 (m : Int)))), (8, .v (.c (.int .i64 (k : Int)))), (9, .v (.c (.int .i64 (i : Int))))],
        [(6, some (.flat true (.int .i64) none e.guesses)), (5, some (.flat true .entry none e.rob)), (4, some (.flat true .bool none e.s.mem.gone)), (3, some (.flat true .word none e.s.mem.words)), (2, some (.flat true .word none e.s.regs)), (1, some (.box true (coC e 2))), (0, some (.box true [.nils .word, .int .i64 0, .ff, .int .i64 0, .int .i64 0, .int .i64 0, .int .i64 0, .nils .word, .nils .bool, .int .i64 0, .nils .entry, .int .i64 0, .ff, .int .i64 0, .int .i64 0, .int .i64 0, .int .i64 0, .ff, .nils (.int .i64)]))], nums.tail.tail.tail.tail.tail.tail.tail, [], false, []⟩)
    (fun q => q.1 ≤ 7 ∧ Sz7 q.2 ∧ D = doGo (8 - q.1) q.1 q.2) (fun q => 8 - q.1) (fun q R2 hI2 hR2 => ?_) (0, d) _ ⟨by simp, hS, hdo⟩ (by show 8 - 0 < 700 + FU; omega)
  obtain ⟨i, e⟩ := q
  obtain ⟨hi, hE, hD⟩ := hI2
  dsimp only at hi hE hD hR2 ⊢
  have hE1 := hE.1
  have hE2 := hE.2
  have v3 : IntKind.i64.wrap ((i : Int) + 1) = ((i + 1 : Nat) : Int) := by rw [wrap_id (by omega) (by omega)]; rfl
  have v4 : IntKind.i64.wrap ((m : Int) + 1) = ((m + 1 : Nat) : Int) := by rw [wrap_id (by omega) (by omega)]; rfl
  have v5 : IntKind.i64.wrap ((k : Int) + 1) = ((k + 1 : Nat) : Int) := by rw [wrap_id (by omega) (by omega)]; rfl
  clear hpre hs0 hS hS1 hS2
  conv => whnf
  repeat' (first | (refine sel_i (fun h => ?_) (fun h => ?_) <;> conv => whnf) | (refine chk_c ?_ ?_ <;> conv => whnf) | (refine And.intro ?_ rfl) | (refine And.intro ?_ ?_ <;> conv => whnf))
  all_goals (try simp only [etaKey, etaWord, etaInst, etaEff, etaEntry, etaMemory, etaState, etaCore, v3, v4, v5, Int.toNat_natCast, gt_iff_lt, decide_eq_true_eq, decide_eq_false_iff_not, Bool.and_eq_true, Bool.and_eq_false_iff] at *)
  all_goals first
    | (refine ⟨?_⟩; exact hE1)
    | (exact hR2 (i + 1, (doC e (i : Int)).1) ⟨by dsimp only; omega, do_sz, by dsimp only; rw [hD, show 8 - i = (8 - (i + 1)) + 1 by omega]; exact doGo_go (by omega)⟩ (by dsimp only; omega))
    | (have hDe : D = e := by rw [hD, doGo_end (by omega)]
       subst hDe
       have hb : (commitC D).2 = true := by assumption
       rw [hb, if_pos rfl] at hG
       exact hR (k + 1, (commitC D).1, m + 1) ⟨by dsimp only; omega, commit_sz, by dsimp only; omega, by dsimp only; rw [hG]; rfl⟩ (by dsimp only; omega))
    | (have hDe : D = e := by rw [hD, doGo_end (by omega)]
       subst hDe
       have hb : (commitC D).2 = false := by assumption
       rw [hb, if_neg (by decide)] at hG
       exact hR (k + 1, (commitC D).1, m) ⟨by dsimp only; omega, commit_sz, by dsimp only; omega, by dsimp only; rw [hG]⟩ (by dsimp only; omega))
    | trace_state
theorem ok_spec_Settle : FunOk Tryz.prog c_spec_Settle := funOk (E := [c_spec_CoreOk, c_spec_l12Copy, c_spec_Do, c_spec_Commit]) (envOk_cons ok_spec_CoreOk (envOk_cons ok_spec_l12Copy (envOk_cons ok_spec_Do (envOk_cons ok_spec_Commit (envOk_nil))))) mixd Tryz.func46 (pf := pf_spec_Settle) (by kernel_rfl) fun ts K h => by
  obtain ⟨t0, t1, e0, h⟩ := as2_out h
  subst e0
  obtain ⟨l, e1, hq⟩ := arC_out (rd_l .inst) h
  clear h
  subst e1
  have h := hq
  clear hq
  obtain ⟨c, e1, hq⟩ := arG_out rd_core h
  clear h
  subst e1
  have h := hq
  clear hq
  obtain ⟨hpre, h⟩ := chk_o h
  exact ⟨_, _, h, Nat.le_of_ble_eq_true (show Nat.ble 2 Tryz.f46.ntmps = true by kernel_rfl), _, run_spec_Settle 0 l c hpre⟩

theorem outOrder_no {l : List Inst} {s : State} {w n : Int} (h : stateOk s = false) : outOrder l s w n = (zState, 0) := if_pos h
theorem outOrder_yes {l : List Inst} {s : State} {w n : Int} (h : stateOk s = true) : outOrder l s w n = ((outGo l (wideI w).toNat (min n 600).toNat (coreNew s) 0).1.s, (outGo l (wideI w).toNat (min n 600).toNat (coreNew s) 0).2) := if_neg (by rw [h]; decide)
theorem wideI_1 {w : Int} (h : inR w 1 6 = false) : wideI w = 1 := if_neg (by rw [h]; decide)
theorem wideI_w {w : Int} (h : inR w 1 6 = true) : wideI w = w := if_pos h
def outT (p : State × Int) : Tree := .tup [.g (p.1.tc true []), .c (.int .i64 p.2)]
theorem settleGo_sz : ∀ (k : Nat) {c : Core} {n : Int}, Sz7 c → Sz7 (settleGo k c n).1
  | 0, c, n, h => h
  | k + 1, c, n, h => by
    unfold settleGo
    split
    · exact settleGo_sz k commit_sz
    · exact h
theorem settle_sz {c : Core} : Sz7 (settle c).1 := by
  cases h : coreOk c with
  | true => rw [settle_yes h]; exact settleGo_sz 600 (fit_ok h).sz
  | false => rw [settle_no h]; exact zCore_sz
theorem settleGo_cnt : ∀ (k : Nat) {c : Core} {n : Int}, n ≤ (settleGo k c n).2 ∧ (settleGo k c n).2 ≤ n + k
  | 0, c, n => ⟨Int.le_refl n, by show n ≤ n + 0; omega⟩
  | k + 1, c, n => by
    unfold settleGo
    split
    · have := settleGo_cnt k (c := (commitC (doAll c)).1) (n := if (commitC (doAll c)).2 then n + 1 else n)
      split at this <;> (rename_i q; (try rw [if_pos q]); (try rw [if_neg q]); omega)
    · show n ≤ n ∧ n ≤ n + ((k + 1 : Nat) : Int); omega
theorem settle_cnt {c : Core} : 0 ≤ (settle c).2 ∧ (settle c).2 ≤ 600 := by
  cases h : coreOk c with
  | true => rw [settle_yes h]; have := settleGo_cnt 600 (c := c) (n := 0); omega
  | false => rw [settle_no h]; exact ⟨Int.le_refl 0, by show (0 : Int) ≤ 600; decide⟩
theorem outGo_go {l : List Inst} {w k : Nat} {c : Core} {a : Int} (h : c.s.trap = 0) : outGo l w (k + 1) c a = outGo l w k (settle (pullN l w c)).1 (a + (settle (pullN l w c)).2) := if_pos h
theorem outGo_end {l : List Inst} {w k : Nat} {c : Core} {a : Int} (h : ¬ c.s.trap = 0) : outGo l w k c a = (c, a) := by
  cases k with
  | zero => rfl
  | succ k => exact if_neg h

def lb_impl_OutOrder_0 : PC := .seq (.reg [.s (.bin 38 .lss (.t 37) (.t 36))]) (.seq (.cond (.t 38) (.skip) (.exit 2)) (.seq (.blk 3 (.reg [.s (.mv 40 (.t 0)), .s (.load 41 true 19 (.t 10)), .s (.call (some 42) 38 [(.t 40), (.t 41)]), .s (.mv 39 (.t 42)), .s (.ext 43 (.t 39) 0), .s (.ext 44 (.t 39) 1), .s (.store 19 (.t 10) (.t 43))])) (.reg [.s (.bin 45 .add (.t 37) (.k (.v (.c (.int .i64 1))))), .s (.mv 37 (.t 45))])))
def lb_impl_OutOrder_1 : PC := .seq (.seq (.reg [.s (.mv 24 (.t 12)), .s (.mv 25 (.t 3)), .s (.mm 26 false (.t 25) (.k (.v (.c (.int .i64 600))))), .s (.bin 27 .lss (.t 24) (.t 26)), .s (.mv 28 (.t 27)), .g 28 true (some 29) (.fa 29 (.t 10) 0), .g 28 true (some 30) (.fa 30 (.t 29) 9), .g 28 true (some 31) (.load 31 false 1 (.t 30)), .g 28 true (some 32) (.bin 32 .eql (.t 31) (.k (.v (.c (.int .i64 0))))), .s (.pick 33 (.t 28) (.t 32) (.k (.v (.c .ff))))]) (.cond (.t 33) (.skip) (.exit 0))) (.seq (.blk 1 (.seq (.seq (.reg [.s (.mv 36 (.t 2)), .s (.mv 37 (.k (.v (.c (.int .i64 0)))))]) (.blk 2 (.loop [0, 2, 3, 8, 10, 11, 12, 36, 37] lb_impl_OutOrder_0))) (.seq (.reg [.s (.mv 47 (.t 0)), .s (.load 48 true 19 (.t 10)), .s (.call (some 49) 39 [(.t 47), (.t 48)]), .s (.mv 46 (.t 49)), .s (.ext 50 (.t 46) 0), .s (.ext 51 (.t 46) 1), .s (.alloc 13 [.nils .word, .int .i64 0, .ff, .int .i64 0, .int .i64 0, .int .i64 0, .int .i64 0, .nils .word, .nils .bool, .int .i64 0, .nils .entry, .int .i64 0, .ff, .int .i64 0, .int .i64 0, .int .i64 0, .int .i64 0, .ff, .nils (.int .i64)]), .s (.store 19 (.t 13) (.t 50)), .s (.mv 14 (.t 51))]) (.seq (.reg [.s (.load 52 true 19 (.t 13)), .s (.store 19 (.t 10) (.t 52))]) (.reg [.s (.mv 53 (.t 11)), .s (.mv 54 (.t 14)), .s (.bin 55 .add (.t 53) (.t 54)), .s (.mv 11 (.t 55))]))))) (.reg [.s (.mv 34 (.t 12)), .s (.bin 35 .add (.t 34) (.k (.v (.c (.int .i64 1))))), .s (.mv 12 (.t 35))]))
def pf_impl_OutOrder : PF := ⟨[.c 8 true 10, .t 9], .seq (.reg [.s (.box 5 (.t 1)), .s (.alloc 8 [.nils .word, .int .i64 0, .ff, .int .i64 0, .int .i64 0, .int .i64 0, .int .i64 0, .nils .word, .nils .bool, .int .i64 0]), .s (.mv 9 (.k (.v (.c (.int .i64 0)))))]) (.seq (.seq (.reg [.s (.load 15 true 10 (.t 5)), .s (.call (some 16) 35 [(.t 15)]), .s (.bnot 17 (.t 16))]) (.cond (.t 17) (.seq (.reg [.s (.build 18 [.nils .word, .int .i64 0, .ff, .int .i64 0, .int .i64 0, .int .i64 0, .int .i64 0, .nils .word, .nils .bool, .int .i64 0] []), .s (.store 10 (.t 8) (.t 18)), .s (.mv 9 (.k (.v (.c (.int .i64 0)))))]) (.ret)) (.skip))) (.seq (.seq (.reg [.s (.mv 19 (.t 2)), .s (.call (some 20) 36 [(.t 19), (.k (.v (.c (.int .i64 1)))), (.k (.v (.c (.int .i64 6))))]), .s (.bnot 21 (.t 20))]) (.cond (.t 21) (.reg [.s (.mv 2 (.k (.v (.c (.int .i64 1)))))]) (.skip))) (.seq (.reg [.s (.load 22 true 10 (.t 5)), .s (.call (some 23) 37 [(.t 22)]), .s (.alloc 10 [.nils .word, .int .i64 0, .ff, .int .i64 0, .int .i64 0, .int .i64 0, .int .i64 0, .nils .word, .nils .bool, .int .i64 0, .nils .entry, .int .i64 0, .ff, .int .i64 0, .int .i64 0, .int .i64 0, .int .i64 0, .ff, .nils (.int .i64)]), .s (.store 19 (.t 10) (.t 23))]) (.seq (.reg [.s (.mv 11 (.k (.v (.c (.int .i64 0)))))]) (.seq (.seq (.reg [.s (.mv 12 (.k (.v (.c (.int .i64 0)))))]) (.blk 0 (.loop [0, 2, 3, 8, 10, 11, 12] lb_impl_OutOrder_1))) (.seq (.reg [.s (.fa 56 (.t 10) 0), .s (.load 57 true 10 (.t 56)), .s (.mv 58 (.t 11)), .s (.store 10 (.t 8) (.t 57)), .s (.mv 9 (.t 58))]) (.ret)))))))⟩
def c_impl_OutOrder : Fun := ⟨12, [], fun ts K => as4 ts fun t0 t1 t2 t3 => arC (pL .inst) t0 fun l => arG pStateT t1 fun s => arC (pI .i64) t2 fun w => arC (pI .i64) t3 fun n => chk (l.length ≤ 2147483647 ∧ LState s 2147483647) (K (outT (outOrder l s w n)) [])⟩
theorem run_impl_OutOrder (FU : Nat) (l : List (FT.Ty .inst)) (s : State) (w : Int) (n : Int) (hpre : l.length ≤ 2147483647 ∧ LState s 2147483647) : runK [c_impl_StateOk, c_impl_in, c_impl_CoreNew, c_impl_Pull, c_impl_Settle] (700 + FU) [] pf_impl_OutOrder [tL false .inst l, tG (s.tc false []), tI .i64 w, tI .i64 n] fun r o => r = outT (outOrder l s w n) ∧ o = [] := by
  obtain ⟨l0, l1⟩ := hpre
  have hcl := coreNew_l l1
  conv => whnf
  repeat' (first | (refine sel_i (fun h => ?_) (fun h => ?_) <;> conv => whnf) | (refine chk_c ?_ ?_ <;> conv => whnf) | (refine And.intro ?_ rfl) | (refine And.intro ?_ ?_ <;> conv => whnf))
  all_goals (try simp only [etaKey, etaWord, etaMemory, etaState, etaCore, Bool.not_eq_true', Bool.not_eq_false', decide_eq_true_eq, decide_eq_false_iff_not, gt_iff_lt] at *)
  all_goals first
    | (refine ⟨?_⟩; assumption)
    | (rw [outOrder_no (by assumption)]; rfl)
    | skip
  all_goals (
    obtain ⟨W, hW, hW1, hW2⟩ : ∃ W : Nat, wideI w = (W : Int) ∧ 1 ≤ W ∧ W ≤ 6 := by
      cases hq : inR w 1 6 with
      | false => exact ⟨1, wideI_1 hq, by decide, by decide⟩
      | true => have h9 := inR_t.1 hq; exact ⟨w.toNat, by rw [wideI_w hq]; omega, by omega, by omega⟩
    have hst : stateOk s = true := by assumption
    have hs0 : Sz7 (coreNew s) := (fit_ok (coreNew_ok hst)).sz
    rw [outOrder_yes hst, hW]
    first
      | (rw [wideI_1 (by assumption)] at hW; rw [hW])
      | (rw [wideI_w (by assumption)] at hW; subst hW)
    generalize coreNew s = c0 at *
    generalize hN : (min n 600).toNat = N
    rw [Int.toNat_natCast]
    refine loop (α := Nat × Core × Nat) (fun ⟨k, c, a⟩ => ⟨[(0, .v (.c (.sl false .inst 0))), (2, .v (.c (.int .i64 (W : Int)))), (3, .v (.c (.int .i64 n))), (8, .v (.c (.ptr 1 0))), (10, .v (.c (.ptr 2 0))), (11, .v (.c (.int .i64 (a : Int)))), (12, .v (.c (.int .i64 (k : Int))))],
        [(7, some (.flat true (.int .i64) none c.guesses)), (6, some (.flat true .entry none c.rob)), (5, some (.flat true .bool none c.s.mem.gone)), (4, some (.flat true .word none c.s.mem.words)), (3, some (.flat true .word none c.s.regs)), (2, some (.box true (coC c 3))), (1, some (.box true [.nils .word, .int .i64 0, .ff, .int .i64 0, .int .i64 0, .int .i64 0, .int .i64 0, .nils .word, .nils .bool, .int .i64 0])), (0, some (.flat false .inst none l))], nums.tail.tail.tail.tail.tail.tail.tail.tail, [], false, []⟩)
      (fun q => q.1 ≤ N ∧ Sz7 q.2.1 ∧ q.2.2 ≤ 600 * q.1 ∧ outGo l W N c0 0 = outGo l W (N - q.1) q.2.1 q.2.2) (fun q => N - q.1) (fun q R hI hR => ?_) (0, c0, 0) _ ⟨by simp, hs0, by simp, rfl⟩ (by show N - 0 < 700 + FU; omega)
    obtain ⟨k, c, a⟩ := q
    obtain ⟨hk, hS, ha, hG⟩ := hI
    dsimp only at hk hS ha hG hR ⊢
    have hS1 := hS.1
    conv => whnf
    repeat' (first | (refine sel_i (fun h => ?_) (fun h => ?_) <;> conv => whnf) | (refine chk_c ?_ ?_ <;> conv => whnf) | (refine And.intro ?_ rfl) | (refine And.intro ?_ ?_ <;> conv => whnf))
    all_goals (try simp only [etaKey, etaWord, etaInst, etaEff, etaEntry, etaMemory, etaState, etaCore, beq_iff_eq, beq_eq_false_iff_ne, ne_eq, Int.toNat_natCast, gt_iff_lt, decide_eq_true_eq, decide_eq_false_iff_not, Bool.and_eq_true, Bool.and_eq_false_iff] at *)
    all_goals first
      | (rw [hG, outGo_end (by assumption)]; rfl)
      | (rw [hG, show N - k = 0 by omega]; rfl)
      | skip
    have ht : c.s.trap = 0 := by assumption
    have hkN : k + 1 ≤ N := by omega
    rw [show N - k = (N - (k + 1)) + 1 by omega, outGo_go ht] at hG
    have hD : pullN l W c = pullN l W c := rfl
    generalize hDD : pullN l W c = D at hG
    refine loop (α := Nat × Core) (fun ⟨i, e⟩ => ⟨[(0, .v (.c (.sl false .inst 0))), (2, .v (.c (.int .i64 (W : Int)))), (3, .v (.c (.int .i64 n))), (8, .v (.c (.ptr 1 0))), (10, .v (.c (.ptr 2 0))), (11, .v (.c (.int .i64 (a : Int)))), (12, .v (.c (.int .i64 (k : Int)))), (36, .v (.c (.int .i64 (W : Int)))), (37, .v (.c (.int .i64 (i : Int))))],
        [(7, some (.flat true (.int .i64) none e.guesses)), (6, some (.flat true .entry none e.rob)), (5, some (.flat true .bool none e.s.mem.gone)), (4, some (.flat true .word none e.s.mem.words)), (3, some (.flat true .word none e.s.regs)), (2, some (.box true (coC e 3))), (1, some (.box true [.nils .word, .int .i64 0, .ff, .int .i64 0, .int .i64 0, .int .i64 0, .int .i64 0, .nils .word, .nils .bool, .int .i64 0])), (0, some (.flat false .inst none l))], nums.tail.tail.tail.tail.tail.tail.tail.tail, [], false, []⟩)
      (fun q => q.1 ≤ W ∧ Sz7 q.2 ∧ D = pullN l (W - q.1) q.2) (fun q => W - q.1) (fun q R2 hI2 hR2 => ?_) (0, c) _ ⟨by simp, hS, hDD.symm⟩ (by show W - 0 < 700 + FU; omega)
    obtain ⟨i, e⟩ := q
    obtain ⟨hi, hE, hDe⟩ := hI2
    dsimp only at hi hE hDe hR2 ⊢
    have hE1 := hE.1
    have v3 : IntKind.i64.wrap ((i : Int) + 1) = ((i + 1 : Nat) : Int) := by rw [wrap_id (by omega) (by omega)]; rfl
    have v5 : IntKind.i64.wrap ((k : Int) + 1) = ((k + 1 : Nat) : Int) := by rw [wrap_id (by omega) (by omega)]; rfl
    have hcnt := settle_cnt (c := e)
    obtain ⟨y, hy⟩ := Int.eq_ofNat_of_zero_le hcnt.1
    have v4 : IntKind.i64.wrap ((a : Int) + (settle e).2) = ((a + y : Nat) : Int) := by rw [wrap_id (by omega) (by omega)]; omega
    clear hS hS1 hcl l1 hs0
    conv => whnf
    repeat' (first | (refine sel_i (fun h => ?_) (fun h => ?_) <;> conv => whnf) | (refine chk_c ?_ ?_ <;> conv => whnf) | (refine And.intro ?_ rfl) | (refine And.intro ?_ ?_ <;> conv => whnf))
    all_goals (try simp only [etaKey, etaWord, etaInst, etaEff, etaEntry, etaMemory, etaState, etaCore, v3, v4, v5, Int.toNat_natCast, gt_iff_lt, decide_eq_true_eq, decide_eq_false_iff_not, Bool.and_eq_true, Bool.and_eq_false_iff] at *)
    all_goals first
      | (refine ⟨?_⟩; first | exact ⟨l0, hE1⟩ | exact hE1)
      | (exact hR2 (i + 1, (pullC l e).1) ⟨by dsimp only; omega, pull_sz, by dsimp only; rw [hDe, show W - i = (W - (i + 1)) + 1 by omega]; rfl⟩ (by dsimp only; omega))
      | (have hDe2 : D = e := by rw [hDe, show W - i = 0 by omega]; rfl
         subst hDe2
         exact hR (k + 1, (settle D).1, a + y) ⟨by dsimp only; omega, settle_sz, by dsimp only; omega, by dsimp only; rw [hG, hy]; rfl⟩ (by dsimp only; omega))
      | trace_state)
theorem ok_impl_OutOrder : FunOk Tryz.prog c_impl_OutOrder := funOk (E := [c_impl_StateOk, c_impl_in, c_impl_CoreNew, c_impl_Pull, c_impl_Settle]) (envOk_cons ok_impl_StateOk (envOk_cons ok_impl_in (envOk_cons ok_impl_CoreNew (envOk_cons ok_impl_Pull (envOk_cons ok_impl_Settle (envOk_nil)))))) mixd Tryz.func12 (pf := pf_impl_OutOrder) (by kernel_rfl) fun ts K h => by
  obtain ⟨t0, t1, t2, t3, e0, h⟩ := as4_out h
  subst e0
  obtain ⟨l, e1, hq⟩ := arC_out (rd_l .inst) h
  clear h
  subst e1
  have h := hq
  clear hq
  obtain ⟨s, e1, hq⟩ := arG_out rd_state h
  clear h
  subst e1
  have h := hq
  clear hq
  obtain ⟨w, e1, hq⟩ := arC_out (rd_int .i64) h
  clear h
  subst e1
  have h := hq
  clear hq
  obtain ⟨n, e1, hq⟩ := arC_out (rd_int .i64) h
  clear h
  subst e1
  have h := hq
  clear hq
  obtain ⟨hpre, h⟩ := chk_o h
  exact ⟨_, _, h, Nat.le_of_ble_eq_true (show Nat.ble 4 Tryz.f12.ntmps = true by kernel_rfl), _, run_impl_OutOrder 0 l s w n hpre⟩

def lb_spec_OutOrder_0 : PC := .seq (.seq (.reg [.s (.mv 37 (.t 13)), .s (.mv 38 (.t 2)), .s (.bin 39 .lss (.t 37) (.t 38))]) (.cond (.t 39) (.skip) (.exit 2))) (.seq (.blk 3 (.reg [.s (.mv 43 (.t 0)), .s (.load 44 true 19 (.t 10)), .s (.call (some 45) 45 [(.t 43), (.t 44)]), .s (.mv 42 (.t 45)), .s (.ext 46 (.t 42) 0), .s (.ext 47 (.t 42) 1), .s (.store 19 (.t 10) (.t 46))])) (.reg [.s (.mv 40 (.t 13)), .s (.bin 41 .add (.t 40) (.k (.v (.c (.int .i64 1))))), .s (.mv 13 (.t 41))]))
def lb_spec_OutOrder_1 : PC := .seq (.seq (.reg [.s (.mv 25 (.t 12)), .s (.mv 26 (.t 3)), .s (.call (some 27) 44 [(.t 26), (.k (.v (.c (.int .i64 600))))]), .s (.bin 28 .lss (.t 25) (.t 27)), .s (.mv 29 (.t 28)), .g 29 true (some 30) (.fa 30 (.t 10) 0), .g 29 true (some 31) (.fa 31 (.t 30) 9), .g 29 true (some 32) (.load 32 false 1 (.t 31)), .g 29 true (some 33) (.bin 33 .eql (.t 32) (.k (.v (.c (.int .i64 0))))), .s (.pick 34 (.t 29) (.t 33) (.k (.v (.c .ff))))]) (.cond (.t 34) (.skip) (.exit 0))) (.seq (.blk 1 (.seq (.seq (.reg [.s (.mv 13 (.k (.v (.c (.int .i64 0)))))]) (.blk 2 (.loop [0, 2, 3, 8, 10, 11, 12, 13] lb_spec_OutOrder_0))) (.seq (.reg [.s (.mv 49 (.t 0)), .s (.load 50 true 19 (.t 10)), .s (.call (some 51) 46 [(.t 49), (.t 50)]), .s (.mv 48 (.t 51)), .s (.ext 52 (.t 48) 0), .s (.ext 53 (.t 48) 1), .s (.alloc 14 [.nils .word, .int .i64 0, .ff, .int .i64 0, .int .i64 0, .int .i64 0, .int .i64 0, .nils .word, .nils .bool, .int .i64 0, .nils .entry, .int .i64 0, .ff, .int .i64 0, .int .i64 0, .int .i64 0, .int .i64 0, .ff, .nils (.int .i64)]), .s (.store 19 (.t 14) (.t 52)), .s (.mv 15 (.t 53))]) (.seq (.reg [.s (.load 54 true 19 (.t 14)), .s (.store 19 (.t 10) (.t 54))]) (.reg [.s (.mv 55 (.t 11)), .s (.mv 56 (.t 15)), .s (.bin 57 .add (.t 55) (.t 56)), .s (.mv 11 (.t 57))]))))) (.reg [.s (.mv 35 (.t 12)), .s (.bin 36 .add (.t 35) (.k (.v (.c (.int .i64 1))))), .s (.mv 12 (.t 36))]))
def pf_spec_OutOrder : PF := ⟨[.c 8 true 10, .t 9], .seq (.reg [.s (.box 5 (.t 1)), .s (.alloc 8 [.nils .word, .int .i64 0, .ff, .int .i64 0, .int .i64 0, .int .i64 0, .int .i64 0, .nils .word, .nils .bool, .int .i64 0]), .s (.mv 9 (.k (.v (.c (.int .i64 0)))))]) (.seq (.seq (.reg [.s (.load 16 true 10 (.t 5)), .s (.call (some 17) 41 [(.t 16)]), .s (.bnot 18 (.t 17))]) (.cond (.t 18) (.seq (.reg [.s (.build 19 [.nils .word, .int .i64 0, .ff, .int .i64 0, .int .i64 0, .int .i64 0, .int .i64 0, .nils .word, .nils .bool, .int .i64 0] []), .s (.store 10 (.t 8) (.t 19)), .s (.mv 9 (.k (.v (.c (.int .i64 0)))))]) (.ret)) (.skip))) (.seq (.seq (.reg [.s (.mv 20 (.t 2)), .s (.call (some 21) 42 [(.t 20), (.k (.v (.c (.int .i64 1)))), (.k (.v (.c (.int .i64 6))))]), .s (.bnot 22 (.t 21))]) (.cond (.t 22) (.reg [.s (.mv 2 (.k (.v (.c (.int .i64 1)))))]) (.skip))) (.seq (.reg [.s (.load 23 true 10 (.t 5)), .s (.call (some 24) 43 [(.t 23)]), .s (.alloc 10 [.nils .word, .int .i64 0, .ff, .int .i64 0, .int .i64 0, .int .i64 0, .int .i64 0, .nils .word, .nils .bool, .int .i64 0, .nils .entry, .int .i64 0, .ff, .int .i64 0, .int .i64 0, .int .i64 0, .int .i64 0, .ff, .nils (.int .i64)]), .s (.store 19 (.t 10) (.t 24))]) (.seq (.reg [.s (.mv 11 (.k (.v (.c (.int .i64 0)))))]) (.seq (.seq (.reg [.s (.mv 12 (.k (.v (.c (.int .i64 0)))))]) (.blk 0 (.loop [0, 2, 3, 8, 10, 11, 12] lb_spec_OutOrder_1))) (.seq (.reg [.s (.fa 58 (.t 10) 0), .s (.load 59 true 10 (.t 58)), .s (.mv 60 (.t 11)), .s (.store 10 (.t 8) (.t 59)), .s (.mv 9 (.t 60))]) (.ret)))))))⟩
def c_spec_OutOrder : Fun := ⟨14, [], fun ts K => as4 ts fun t0 t1 t2 t3 => arC (pL .inst) t0 fun l => arG pStateT t1 fun s => arC (pI .i64) t2 fun w => arC (pI .i64) t3 fun n => chk (l.length ≤ 2147483647 ∧ LState s 2147483647) (K (outT (outOrder l s w n)) [])⟩
theorem run_spec_OutOrder (FU : Nat) (l : List (FT.Ty .inst)) (s : State) (w : Int) (n : Int) (hpre : l.length ≤ 2147483647 ∧ LState s 2147483647) : runK [c_spec_StateOk, c_spec_l1In, c_spec_CoreNew, c_spec_l1Min, c_spec_Pull, c_spec_Settle] (700 + FU) [] pf_spec_OutOrder [tL false .inst l, tG (s.tc false []), tI .i64 w, tI .i64 n] fun r o => r = outT (outOrder l s w n) ∧ o = [] := by
  obtain ⟨l0, l1⟩ := hpre
  have hcl := coreNew_l l1
  conv => whnf
  repeat' (first | (refine sel_i (fun h => ?_) (fun h => ?_) <;> conv => whnf) | (refine chk_c ?_ ?_ <;> conv => whnf) | (refine And.intro ?_ rfl) | (refine And.intro ?_ ?_ <;> conv => whnf))
  all_goals (try simp only [etaKey, etaWord, etaMemory, etaState, etaCore, Bool.not_eq_true', Bool.not_eq_false', decide_eq_true_eq, decide_eq_false_iff_not, gt_iff_lt] at *)
  all_goals first
    | (refine ⟨?_⟩; assumption)
    | (rw [outOrder_no (by assumption)]; rfl)
    | skip
  all_goals (
    obtain ⟨W, hW, hW1, hW2⟩ : ∃ W : Nat, wideI w = (W : Int) ∧ 1 ≤ W ∧ W ≤ 6 := by
      cases hq : inR w 1 6 with
      | false => exact ⟨1, wideI_1 hq, by decide, by decide⟩
      | true => have h9 := inR_t.1 hq; exact ⟨w.toNat, by rw [wideI_w hq]; omega, by omega, by omega⟩
    have hst : stateOk s = true := by assumption
    have hs0 : Sz7 (coreNew s) := (fit_ok (coreNew_ok hst)).sz
    rw [outOrder_yes hst, hW]
    first
      | (rw [wideI_1 (by assumption)] at hW; rw [hW])
      | (rw [wideI_w (by assumption)] at hW; subst hW)
    generalize coreNew s = c0 at *
    generalize hN : (min n 600).toNat = N
    rw [Int.toNat_natCast]
    refine loop (α := Nat × Core × Nat) (fun ⟨k, c, a⟩ => ⟨[(0, .v (.c (.sl false .inst 0))), (2, .v (.c (.int .i64 (W : Int)))), (3, .v (.c (.int .i64 n))), (8, .v (.c (.ptr 1 0))), (10, .v (.c (.ptr 2 0))), (11, .v (.c (.int .i64 (a : Int)))), (12, .v (.c (.int .i64 (k : Int))))],
        [(7, some (.flat true (.int .i64) none c.guesses)), (6, some (.flat true .entry none c.rob)), (5, some (.flat true .bool none c.s.mem.gone)), (4, some (.flat true .word none c.s.mem.words)), (3, some (.flat true .word none c.s.regs)), (2, some (.box true (coC c 3))), (1, some (.box true [.nils .word, .int .i64 0, .ff, .int .i64 0, .int .i64 0, .int .i64 0, .int .i64 0, .nils .word, .nils .bool, .int .i64 0])), (0, some (.flat false .inst none l))], nums.tail.tail.tail.tail.tail.tail.tail.tail, [], false, []⟩)
      (fun q => q.1 ≤ N ∧ Sz7 q.2.1 ∧ q.2.2 ≤ 600 * q.1 ∧ outGo l W N c0 0 = outGo l W (N - q.1) q.2.1 q.2.2) (fun q => N - q.1) (fun q R hI hR => ?_) (0, c0, 0) _ ⟨by simp, hs0, by simp, rfl⟩ (by show N - 0 < 700 + FU; omega)
    obtain ⟨k, c, a⟩ := q
    obtain ⟨hk, hS, ha, hG⟩ := hI
    dsimp only at hk hS ha hG hR ⊢
    have hS1 := hS.1
    conv => whnf
    repeat' (first | (refine sel_i (fun h => ?_) (fun h => ?_) <;> conv => whnf) | (refine chk_c ?_ ?_ <;> conv => whnf) | (refine And.intro ?_ rfl) | (refine And.intro ?_ ?_ <;> conv => whnf))
    all_goals (try simp only [etaKey, etaWord, etaInst, etaEff, etaEntry, etaMemory, etaState, etaCore, beq_iff_eq, beq_eq_false_iff_ne, ne_eq, Int.toNat_natCast, gt_iff_lt, decide_eq_true_eq, decide_eq_false_iff_not, Bool.and_eq_true, Bool.and_eq_false_iff] at *)
    all_goals first
      | (rw [hG, outGo_end (by assumption)]; rfl)
      | (rw [hG, show N - k = 0 by omega]; rfl)
      | skip
    have ht : c.s.trap = 0 := by assumption
    have hkN : k + 1 ≤ N := by omega
    rw [show N - k = (N - (k + 1)) + 1 by omega, outGo_go ht] at hG
    have hD : pullN l W c = pullN l W c := rfl
    generalize hDD : pullN l W c = D at hG
    refine loop (α := Nat × Core) (fun ⟨i, e⟩ => ⟨[(0, .v (.c (.sl false .inst 0))), (2, .v (.c (.int .i64 (W : Int)))), (3, .v (.c (.int .i64 n))), (8, .v (.c (.ptr 1 0))), (10, .v (.c (.ptr 2 0))), (11, .v (.c (.int .i64 (a : Int)))), (12, .v (.c (.int .i64 (k : Int)))), (13, .v (.c (.int .i64 (i : Int))))],
        [(7, some (.flat true (.int .i64) none e.guesses)), (6, some (.flat true .entry none e.rob)), (5, some (.flat true .bool none e.s.mem.gone)), (4, some (.flat true .word none e.s.mem.words)), (3, some (.flat true .word none e.s.regs)), (2, some (.box true (coC e 3))), (1, some (.box true [.nils .word, .int .i64 0, .ff, .int .i64 0, .int .i64 0, .int .i64 0, .int .i64 0, .nils .word, .nils .bool, .int .i64 0])), (0, some (.flat false .inst none l))], nums.tail.tail.tail.tail.tail.tail.tail.tail, [], false, []⟩)
      (fun q => q.1 ≤ W ∧ Sz7 q.2 ∧ D = pullN l (W - q.1) q.2) (fun q => W - q.1) (fun q R2 hI2 hR2 => ?_) (0, c) _ ⟨by simp, hS, hDD.symm⟩ (by show W - 0 < 700 + FU; omega)
    obtain ⟨i, e⟩ := q
    obtain ⟨hi, hE, hDe⟩ := hI2
    dsimp only at hi hE hDe hR2 ⊢
    have hE1 := hE.1
    have v3 : IntKind.i64.wrap ((i : Int) + 1) = ((i + 1 : Nat) : Int) := by rw [wrap_id (by omega) (by omega)]; rfl
    have v5 : IntKind.i64.wrap ((k : Int) + 1) = ((k + 1 : Nat) : Int) := by rw [wrap_id (by omega) (by omega)]; rfl
    have hcnt := settle_cnt (c := e)
    obtain ⟨y, hy⟩ := Int.eq_ofNat_of_zero_le hcnt.1
    have v4 : IntKind.i64.wrap ((a : Int) + (settle e).2) = ((a + y : Nat) : Int) := by rw [wrap_id (by omega) (by omega)]; omega
    clear hS hS1 hcl l1 hs0
    conv => whnf
    repeat' (first | (refine sel_i (fun h => ?_) (fun h => ?_) <;> conv => whnf) | (refine chk_c ?_ ?_ <;> conv => whnf) | (refine And.intro ?_ rfl) | (refine And.intro ?_ ?_ <;> conv => whnf))
    all_goals (try simp only [etaKey, etaWord, etaInst, etaEff, etaEntry, etaMemory, etaState, etaCore, v3, v4, v5, Int.toNat_natCast, gt_iff_lt, decide_eq_true_eq, decide_eq_false_iff_not, Bool.and_eq_true, Bool.and_eq_false_iff] at *)
    all_goals first
      | (refine ⟨?_⟩; first | exact ⟨l0, hE1⟩ | exact hE1)
      | (exact hR2 (i + 1, (pullC l e).1) ⟨by dsimp only; omega, pull_sz, by dsimp only; rw [hDe, show W - i = (W - (i + 1)) + 1 by omega]; rfl⟩ (by dsimp only; omega))
      | (have hDe2 : D = e := by rw [hDe, show W - i = 0 by omega]; rfl
         subst hDe2
         exact hR (k + 1, (settle D).1, a + y) ⟨by dsimp only; omega, settle_sz, by dsimp only; omega, by dsimp only; rw [hG, hy]; rfl⟩ (by dsimp only; omega))
      | trace_state)
theorem ok_spec_OutOrder : FunOk Tryz.prog c_spec_OutOrder := funOk (E := [c_spec_StateOk, c_spec_l1In, c_spec_CoreNew, c_spec_l1Min, c_spec_Pull, c_spec_Settle]) (envOk_cons ok_spec_StateOk (envOk_cons ok_spec_l1In (envOk_cons ok_spec_CoreNew (envOk_cons ok_spec_l1Min (envOk_cons ok_spec_Pull (envOk_cons ok_spec_Settle (envOk_nil))))))) mixd Tryz.func14 (pf := pf_spec_OutOrder) (by kernel_rfl) fun ts K h => by
  obtain ⟨t0, t1, t2, t3, e0, h⟩ := as4_out h
  subst e0
  obtain ⟨l, e1, hq⟩ := arC_out (rd_l .inst) h
  clear h
  subst e1
  have h := hq
  clear hq
  obtain ⟨s, e1, hq⟩ := arG_out rd_state h
  clear h
  subst e1
  have h := hq
  clear hq
  obtain ⟨w, e1, hq⟩ := arC_out (rd_int .i64) h
  clear h
  subst e1
  have h := hq
  clear hq
  obtain ⟨n, e1, hq⟩ := arC_out (rd_int .i64) h
  clear h
  subst e1
  have h := hq
  clear hq
  obtain ⟨hpre, h⟩ := chk_o h
  exact ⟨_, _, h, Nat.le_of_ble_eq_true (show Nat.ble 4 Tryz.f14.ntmps = true by kernel_rfl), _, run_spec_OutOrder 0 l s w n hpre⟩
end Go.Pi
