/- Contracts of functions, each out of its run by PI. No conditions. -/
import Derived.Test.YtojoiikibimomaaGreatDoorC6
namespace Go.Pi
open Go.Proofs
set_option linter.unusedVariables false
set_option linter.unusedSimpArgs false
set_option maxRecDepth 100000
attribute [local irreducible] iterN
def pf_slices_Delete_Entry : PF := ⟨[.t 6], .seq (.reg [.s (.mv 6 (.k (.v (.c (.nils .entry)))))]) (.seq (.reg [.s (.mv 8 (.t 0)), .s (.mv 9 (.t 1)), .s (.mv 10 (.t 2)), .s (.mv 11 (.t 0)), .s (.len 12 false (.t 11)), .s (.slcu 13 .entry (.t 8) (.t 9) (.t 10) (.t 12))]) (.seq (.seq (.reg [.s (.mv 14 (.t 1)), .s (.mv 15 (.t 2)), .s (.bin 16 .eql (.t 14) (.t 15))]) (.cond (.t 16) (.seq (.reg [.s (.mv 17 (.t 0)), .s (.mv 6 (.t 17))]) (.ret)) (.skip))) (.seq (.reg [.s (.mv 18 (.t 0)), .s (.len 19 false (.t 18)), .s (.mv 7 (.t 19))]) (.seq (.rgd [] [.s (.mv 20 (.t 0)), .s (.mv 21 (.t 1)), .s (.slc 22 .entry (.t 20) none (some (.t 21))), .s (.mv 23 (.t 0)), .s (.mv 24 (.t 2)), .s (.slc 25 .entry (.t 23) (some (.t 24)) none), .s (.appi 26 .entry (.t 22) (.t 25)), .s (.mv 0 (.t 26))] (.tk 0 (.tk 1 (.tk 3 (.tk 4 (.alt 2 false (.one 5 true (.one 6 true (.tk 7 (.done (some [0, 7]))))) (.alt 5 false (.one 2 true (.one 6 true (.tk 7 (.done (some [0, 7]))))) (.nil)))))))) (.seq (.reg [.s (.mv 27 (.t 0)), .s (.mv 28 (.t 0)), .s (.len 29 false (.t 28)), .s (.mv 30 (.t 7)), .s (.slcb 31 .entry (.t 27) (.t 29) (.t 30)), .s (.clr .entry (.t 31))]) (.seq (.reg [.s (.mv 32 (.t 0)), .s (.mv 6 (.t 32))]) (.ret)))))))⟩
def c_slices_Delete_Entry : Fun := ⟨139, [true, false, false], fun ts K => as3 ts fun t0 t1 t2 => arC (pO .entry) t0 fun s => arC (pI .i64) t1 fun i => arC (pI .i64) t2 fun j => chk (0 ≤ i ∧ i < j ∧ j ≤ s.length ∧ s.length ≤ 2147483647) (K (tL true .entry (s.take i.toNat ++ s.drop j.toNat)) ([.v (.c .unk)]))⟩
theorem run_slices_Delete_Entry (s : List (FT.Ty .entry)) (i : Int) (j : Int) (hpre : 0 ≤ i ∧ i < j ∧ j ≤ s.length ∧ s.length ≤ 2147483647) : runK [] (0) [true, false, false] pf_slices_Delete_Entry [tL true .entry s, tI .i64 i, tI .i64 j] fun r o => r = tL true .entry (s.take i.toNat ++ s.drop j.toNat) ∧ o = [.v (.c .unk)] := by
  obtain ⟨h0, hij, hj, hs⟩ := hpre
  have hD : win s (0 + j.toNat) ((s.length : Int) - j).toNat = s.drop j.toNat := by unfold win; rw [Nat.zero_add, List.take_of_length_le (by rw [List.length_drop]; omega)]
  have hDl : (s.drop j.toNat).length = s.length - j.toNat := List.length_drop
  have hov : (over s (0 + i.toNat) (s.drop j.toNat)).length = s.length := by simp [over]; omega
  conv => whnf
  repeat' (first | (refine sel_i (fun h => ?_) (fun h => ?_) <;> conv => whnf) | (refine chk_c ?_ ?_ <;> conv => whnf) | (refine And.intro ?_ rfl) | (refine And.intro ?_ ?_ <;> conv => whnf))
  all_goals (try simp only [hD, hov, hDl] at *)
  all_goals first
    | trivial
    | (refine ⟨?_⟩; omega)
    | (refine ⟨?_⟩; refine ⟨by omega, by omega, by omega, by omega⟩)
    | (exfalso; simp at *; omega)
    | skip
  rw [Nat.zero_add, Nat.zero_add, Int.toNat_natCast, win_over _ _ _ _ _ (by omega) (by rw [List.length_drop])]
theorem ok_slices_Delete_Entry : FunOk Tryz.prog c_slices_Delete_Entry := funOk (E := []) (envOk_nil) mixd Tryz.func139 (pf := pf_slices_Delete_Entry) (by kernel_rfl) fun ts K h => by
  obtain ⟨t0, t1, t2, e0, h⟩ := as3_out h
  subst e0
  obtain ⟨s, e1, hq⟩ := arC_out (rd_o .entry) h
  clear h
  subst e1
  have h := hq
  clear hq
  obtain ⟨i, e1, hq⟩ := arC_out (rd_int .i64) h
  clear h
  subst e1
  have h := hq
  clear hq
  obtain ⟨j, e1, hq⟩ := arC_out (rd_int .i64) h
  clear h
  subst e1
  have h := hq
  clear hq
  obtain ⟨hpre, h⟩ := chk_o h
  exact ⟨_, _, h, Nat.le_of_ble_eq_true (show Nat.ble 3 Tryz.f139.ntmps = true by kernel_rfl), _, run_slices_Delete_Entry s i j hpre⟩

def sweepM (m : Mem) (n : Int) : Mem := if memoryOk m then (if inR n 0 23 then ⟨m.words.set n.toNat (filterW m.gone (m.words.getD n.toNat (FT.zero .word))), m.gone⟩ else m) else ⟨[], []⟩
def commitC (c : Core) : Core × Bool :=
  if coreOk c = false then (zCore, false) else
  if c.rob.length = 0 ∨ (atE c 0).done = false ∨ c.s.trap ≠ 0 then (c, false) else
  if (atE c 0).e.trap ≠ 0 then (⟨⟨c.s.regs, (atE c 0).pc, c.s.mem, (atE c 0).e.trap⟩, [], c.next, true, c.guesses⟩, true) else
  if 0 ≤ (atE c 0).e.drop then (⟨putE c.s (atE c 0).e, [], (atE c 0).e.next, false, learnG c.guesses (atE c 0).pc (atE c 0).e.next⟩, true) else
  (⟨putE c.s (atE c 0).e, c.rob.drop 1, c.next, c.stop, learnG c.guesses (atE c 0).pc (atE c 0).e.next⟩, true)
theorem commitC_no {c : Core} (h : coreOk c = false) : commitC c = (zCore, false) := if_pos h
theorem commitC_nr {c : Core} (h : coreOk c = true) (h2 : c.rob.length = 0 ∨ (atE c 0).done = false ∨ c.s.trap ≠ 0) : commitC c = (c, false) := by
  unfold commitC; rw [if_neg (by rw [h]; decide), if_pos h2]
theorem commitC_t {c : Core} (h : coreOk c = true) (h2 : ¬ (c.rob.length = 0 ∨ (atE c 0).done = false ∨ c.s.trap ≠ 0)) (h3 : ¬ (atE c 0).e.trap = 0) : commitC c = (⟨⟨c.s.regs, (atE c 0).pc, c.s.mem, (atE c 0).e.trap⟩, [], c.next, true, c.guesses⟩, true) := by
  unfold commitC; rw [if_neg (by rw [h]; decide), if_neg h2, if_pos h3]
theorem commitC_d {c : Core} (h : coreOk c = true) (h2 : ¬ (c.rob.length = 0 ∨ (atE c 0).done = false ∨ c.s.trap ≠ 0)) (h3 : (atE c 0).e.trap = 0) (h4 : 0 ≤ (atE c 0).e.drop) : commitC c = (⟨putE c.s (atE c 0).e, [], (atE c 0).e.next, false, learnG c.guesses (atE c 0).pc (atE c 0).e.next⟩, true) := by
  unfold commitC; rw [if_neg (by rw [h]; decide), if_neg h2, if_neg (fun q => q h3), if_pos h4]
theorem commitC_0 {c : Core} (h : coreOk c = true) (h2 : ¬ (c.rob.length = 0 ∨ (atE c 0).done = false ∨ c.s.trap ≠ 0)) (h3 : (atE c 0).e.trap = 0) (h4 : ¬ 0 ≤ (atE c 0).e.drop) : commitC c = (⟨putE c.s (atE c 0).e, c.rob.drop 1, c.next, c.stop, learnG c.guesses (atE c 0).pc (atE c 0).e.next⟩, true) := by
  unfold commitC; rw [if_neg (by rw [h]; decide), if_neg h2, if_neg (fun q => q h3), if_neg h4]
theorem ncm {c : Core} (h1 : ¬ c.rob.length = 0) (h2 : (atE c 0).done = true) (h3 : c.s.trap = 0) : ¬ (c.rob.length = 0 ∨ (atE c 0).done = false ∨ c.s.trap ≠ 0) := by
  rintro (q | q | q)
  · exact h1 q
  · rw [h2] at q; cases q
  · exact q h3

theorem eqLen0 (n : Nat) : ((n : Int) == 0) = decide (n = 0) := eqLen n 0

def pf_impl_Sweep : PF := ⟨[.c 4 true 2], .seq (.reg [.s (.box 2 (.t 0)), .s (.alloc 4 [.nils .word, .nils .bool])]) (.seq (.seq (.reg [.s (.load 6 true 2 (.t 2)), .s (.call (some 7) 88 [(.t 6)]), .s (.bnot 8 (.t 7))]) (.cond (.t 8) (.seq (.reg [.s (.build 9 [.nils .word, .nils .bool] []), .s (.store 2 (.t 4) (.t 9))]) (.ret)) (.skip))) (.seq (.reg [.s (.load 10 true 2 (.t 2)), .s (.call (some 11) 132 [(.t 10)]), .s (.alloc 5 [.nils .word, .nils .bool]), .s (.store 2 (.t 5) (.t 11))]) (.seq (.seq (.reg [.s (.mv 12 (.t 1)), .s (.call (some 13) 73 [(.t 12), (.k (.v (.c (.int .i64 0)))), (.k (.v (.c (.int .i64 23))))])]) (.cond (.t 13) (.rgd [] [.s (.fa 14 (.t 5) 0), .s (.load 15 false 1 (.t 14)), .s (.mv 16 (.t 1)), .s (.load 17 true 2 (.t 2)), .s (.fa 18 (.t 2) 0), .s (.load 19 false 1 (.t 18)), .s (.mv 20 (.t 1)), .s (.ia 21 .word (.t 19) (.t 20)), .s (.load 22 true 6 (.t 21)), .s (.call (some 23) 142 [(.t 17), (.t 22)]), .s (.ia 24 .word (.t 15) (.t 16)), .s (.store 6 (.t 24) (.t 23))] (.tk 0 (.tk 1 (.tk 2 (.tk 3 (.tk 4 (.tk 5 (.tk 6 (.tk 7 (.tk 8 (.one 9 false (.tk 10 (.one 11 true (.done none)))))))))))))) (.skip))) (.seq (.reg [.s (.load 25 true 2 (.t 5)), .s (.store 2 (.t 4) (.t 25))]) (.ret)))))⟩
def c_impl_Sweep : Fun := ⟨74, [], fun ts K => as2 ts fun t0 t1 => arG pMemT t0 fun m => arC (pI .i64) t1 fun n => chk (LMem m 2147483647) (K (tG ((sweepM m n).tc true [])) [])⟩
theorem run_impl_Sweep (m : Mem) (n : Int) (hpre : LMem m 2147483647) : runK [c_impl_in, c_impl_MemoryOk, c_impl_cloneMemory, c_impl_Filter] (0) [] pf_impl_Sweep [tG (m.tc false []), tI .i64 n] fun r o => r = tG ((sweepM m n).tc true []) ∧ o = [] := by
  have hl : memoryOk m = true → m.words.length = 24 := fun h => (memoryOk_iff.1 h).1
  conv => whnf
  repeat' (first | (refine sel_i (fun h => ?_) (fun h => ?_) <;> conv => whnf) | (refine chk_c ?_ ?_ <;> conv => whnf) | (refine And.intro ?_ rfl) | (refine And.intro ?_ ?_ <;> conv => whnf))
  all_goals (try simp only [etaMemory, etaWord, etaKey, Bool.not_eq_true', Bool.not_eq_false'] at *)
  all_goals first
    | (refine ⟨?_⟩; first | assumption | (have q := hl (by assumption); have q2 := inR_t.1 (show inR n 0 23 = true by assumption); omega))
    | (unfold sweepM; simp only [*, if_true, if_false, Bool.false_eq_true]; first | done | rfl)
    | trace_state
theorem ok_impl_Sweep : FunOk Tryz.prog c_impl_Sweep := funOk (E := [c_impl_in, c_impl_MemoryOk, c_impl_cloneMemory, c_impl_Filter]) (envOk_cons ok_impl_in (envOk_cons ok_impl_MemoryOk (envOk_cons ok_impl_cloneMemory (envOk_cons ok_impl_Filter (envOk_nil))))) mixd Tryz.func74 (pf := pf_impl_Sweep) (by kernel_rfl) fun ts K h => by
  obtain ⟨t0, t1, e0, h⟩ := as2_out h
  subst e0
  obtain ⟨m, e1, hq⟩ := arG_out rd_mem h
  clear h
  subst e1
  have h := hq
  clear hq
  obtain ⟨n, e1, hq⟩ := arC_out (rd_int .i64) h
  clear h
  subst e1
  have h := hq
  clear hq
  obtain ⟨hpre, h⟩ := chk_o h
  exact ⟨_, _, h, Nat.le_of_ble_eq_true (show Nat.ble 2 Tryz.f74.ntmps = true by kernel_rfl), _, run_impl_Sweep m n hpre⟩

def pf_spec_Sweep : PF := ⟨[.c 4 true 2], .seq (.reg [.s (.box 2 (.t 0)), .s (.alloc 4 [.nils .word, .nils .bool])]) (.seq (.seq (.reg [.s (.load 6 true 2 (.t 2)), .s (.call (some 7) 76 [(.t 6)]), .s (.bnot 8 (.t 7))]) (.cond (.t 8) (.seq (.reg [.s (.build 9 [.nils .word, .nils .bool] []), .s (.store 2 (.t 4) (.t 9))]) (.ret)) (.skip))) (.seq (.reg [.s (.load 10 true 2 (.t 2)), .s (.call (some 11) 144 [(.t 10)]), .s (.alloc 5 [.nils .word, .nils .bool]), .s (.store 2 (.t 5) (.t 11))]) (.seq (.seq (.reg [.s (.mv 12 (.t 1)), .s (.call (some 13) 77 [(.t 12), (.k (.v (.c (.int .i64 0)))), (.k (.v (.c (.int .i64 23))))])]) (.cond (.t 13) (.rgd [] [.s (.fa 14 (.t 5) 0), .s (.load 15 false 1 (.t 14)), .s (.mv 16 (.t 1)), .s (.load 17 true 2 (.t 2)), .s (.fa 18 (.t 2) 0), .s (.load 19 false 1 (.t 18)), .s (.mv 20 (.t 1)), .s (.ia 21 .word (.t 19) (.t 20)), .s (.load 22 true 6 (.t 21)), .s (.call (some 23) 152 [(.t 17), (.t 22)]), .s (.ia 24 .word (.t 15) (.t 16)), .s (.store 6 (.t 24) (.t 23))] (.tk 0 (.tk 1 (.tk 2 (.tk 3 (.tk 4 (.tk 5 (.tk 6 (.tk 7 (.tk 8 (.one 9 false (.tk 10 (.one 11 true (.done none)))))))))))))) (.skip))) (.seq (.reg [.s (.load 25 true 2 (.t 5)), .s (.store 2 (.t 4) (.t 25))]) (.ret)))))⟩
def c_spec_Sweep : Fun := ⟨84, [], fun ts K => as2 ts fun t0 t1 => arG pMemT t0 fun m => arC (pI .i64) t1 fun n => chk (LMem m 2147483647) (K (tG ((sweepM m n).tc true [])) [])⟩
theorem run_spec_Sweep (m : Mem) (n : Int) (hpre : LMem m 2147483647) : runK [c_spec_MemoryOk, c_spec_l1In, c_spec_l8Copy, c_spec_Filter] (0) [] pf_spec_Sweep [tG (m.tc false []), tI .i64 n] fun r o => r = tG ((sweepM m n).tc true []) ∧ o = [] := by
  have hl : memoryOk m = true → m.words.length = 24 := fun h => (memoryOk_iff.1 h).1
  conv => whnf
  repeat' (first | (refine sel_i (fun h => ?_) (fun h => ?_) <;> conv => whnf) | (refine chk_c ?_ ?_ <;> conv => whnf) | (refine And.intro ?_ rfl) | (refine And.intro ?_ ?_ <;> conv => whnf))
  all_goals (try simp only [etaMemory, etaWord, etaKey, Bool.not_eq_true', Bool.not_eq_false'] at *)
  all_goals first
    | (refine ⟨?_⟩; first | assumption | (have q := hl (by assumption); have q2 := inR_t.1 (show inR n 0 23 = true by assumption); omega))
    | (unfold sweepM; simp only [*, if_true, if_false, Bool.false_eq_true]; first | done | rfl)
    | trace_state
theorem ok_spec_Sweep : FunOk Tryz.prog c_spec_Sweep := funOk (E := [c_spec_MemoryOk, c_spec_l1In, c_spec_l8Copy, c_spec_Filter]) (envOk_cons ok_spec_MemoryOk (envOk_cons ok_spec_l1In (envOk_cons ok_spec_l8Copy (envOk_cons ok_spec_Filter (envOk_nil))))) mixd Tryz.func84 (pf := pf_spec_Sweep) (by kernel_rfl) fun ts K h => by
  obtain ⟨t0, t1, e0, h⟩ := as2_out h
  subst e0
  obtain ⟨m, e1, hq⟩ := arG_out rd_mem h
  clear h
  subst e1
  have h := hq
  clear hq
  obtain ⟨n, e1, hq⟩ := arC_out (rd_int .i64) h
  clear h
  subst e1
  have h := hq
  clear hq
  obtain ⟨hpre, h⟩ := chk_o h
  exact ⟨_, _, h, Nat.le_of_ble_eq_true (show Nat.ble 2 Tryz.f84.ntmps = true by kernel_rfl), _, run_spec_Sweep m n hpre⟩

def c_impl_State_put_v_Core : Fun := ⟨138, [true, false], fun ts K => as2 ts fun t0 t1 => arQ pCoreO t0 fun c => arG pEffT t1 fun e => chk (LenOk c.s) (K (.tup []) ([.v (.ptr true 0 ((⟨putE c.s e, c.rob, c.next, c.stop, c.guesses⟩ : Core).tc true []))]))⟩
theorem run_impl_State_put_v_Core (c : Core) (e : Eff) (hpre : LenOk c.s) : runK [c_impl_in] (0) [true, false] pf_impl_State_put [.v (.ptr true 0 (c.tc true [])), tG (e.tc [])] fun r o => r = .tup [] ∧ o = [.v (.ptr true 0 ((⟨putE c.s e, c.rob, c.next, c.stop, c.guesses⟩ : Core).tc true []))] := by
  obtain ⟨l2, l3, l4⟩ := hpre
  conv => whnf
  repeat' (first | (refine sel_i (fun h => ?_) (fun h => ?_) <;> conv => whnf) | (refine chk_c ?_ ?_ <;> conv => whnf) | (refine And.intro ?_ rfl) | (refine And.intro ?_ ?_ <;> conv => whnf))
  all_goals (try simp only [etaKey, etaWord, etaInst, etaEff, etaMemory, bne_iff_ne, ne_eq, bne_eq_false_iff_eq, beq_iff_eq, beq_eq_false_iff_ne, Bool.not_eq_true', Bool.not_eq_false', decide_eq_true_eq, decide_eq_false_iff_not] at *)
  all_goals first
    | (refine ⟨?_⟩; simp only [inR_t, inR_f] at *; omega)
    | (unfold putE; simp only [*, if_true, if_false, Bool.false_eq_true]; first | done | rfl)
    | trace_state
theorem ok_impl_State_put_v_Core : FunOk Tryz.prog c_impl_State_put_v_Core := funOk (E := [c_impl_in]) (envOk_cons ok_impl_in (envOk_nil)) mixd Tryz.func138 (pf := pf_impl_State_put) (by kernel_rfl) fun ts K h => by
  obtain ⟨t0, t1, e0, h⟩ := as2_out h
  subst e0
  obtain ⟨c, e1, hq⟩ := arQ_out rd_coreO h
  clear h
  subst e1
  have h := hq
  clear hq
  obtain ⟨e, e1, hq⟩ := arG_out rd_eff h
  clear h
  subst e1
  have h := hq
  clear hq
  obtain ⟨hpre, h⟩ := chk_o h
  exact ⟨_, _, h, Nat.le_of_ble_eq_true (show Nat.ble 2 Tryz.f138.ntmps = true by kernel_rfl), _, run_impl_State_put_v_Core c e hpre⟩

def pf_impl_Commit : PF := ⟨[.c 2 true 19, .t 3], .seq (.reg [.s (.box 1 (.t 0)), .s (.alloc 2 [.nils .word, .int .i64 0, .ff, .int .i64 0, .int .i64 0, .int .i64 0, .int .i64 0, .nils .word, .nils .bool, .int .i64 0, .nils .entry, .int .i64 0, .ff, .int .i64 0, .int .i64 0, .int .i64 0, .int .i64 0, .ff, .nils (.int .i64)]), .s (.mv 3 (.k (.v (.c .ff))))]) (.seq (.seq (.reg [.s (.load 6 true 19 (.t 1)), .s (.call (some 7) 51 [(.t 6)]), .s (.bnot 8 (.t 7))]) (.cond (.t 8) (.seq (.reg [.s (.build 9 [.nils .word, .int .i64 0, .ff, .int .i64 0, .int .i64 0, .int .i64 0, .int .i64 0, .nils .word, .nils .bool, .int .i64 0, .nils .entry, .int .i64 0, .ff, .int .i64 0, .int .i64 0, .int .i64 0, .int .i64 0, .ff, .nils (.int .i64)] []), .s (.store 19 (.t 2) (.t 9)), .s (.mv 3 (.k (.v (.c .ff))))]) (.ret)) (.skip))) (.seq (.reg [.s (.load 10 true 19 (.t 1)), .s (.call (some 11) 72 [(.t 10)]), .s (.alloc 4 [.nils .word, .int .i64 0, .ff, .int .i64 0, .int .i64 0, .int .i64 0, .int .i64 0, .nils .word, .nils .bool, .int .i64 0, .nils .entry, .int .i64 0, .ff, .int .i64 0, .int .i64 0, .int .i64 0, .int .i64 0, .ff, .nils (.int .i64)]), .s (.store 19 (.t 4) (.t 11))]) (.seq (.seq (.reg [.s (.fa 12 (.t 1) 10), .s (.load 13 false 1 (.t 12)), .s (.len 14 false (.t 13)), .s (.bin 15 .eql (.t 14) (.k (.v (.c (.int .i64 0))))), .s (.mv 16 (.t 15)), .g 16 false (some 17) (.fa 17 (.t 1) 10), .g 16 false (some 18) (.load 18 false 1 (.t 17)), .g 16 false (some 19) (.ia 19 .entry (.t 18) (.k (.v (.c (.int .i64 0))))), .g 16 false (some 20) (.fa 20 (.t 19) 11), .g 16 false (some 21) (.load 21 false 1 (.t 20)), .g 16 false (some 22) (.bnot 22 (.t 21)), .s (.pick 23 (.t 16) (.k (.v (.c .tt))) (.t 22)), .s (.mv 24 (.t 23)), .g 24 false (some 25) (.fa 25 (.t 1) 0), .g 24 false (some 26) (.fa 26 (.t 25) 9), .g 24 false (some 27) (.load 27 false 1 (.t 26)), .g 24 false (some 28) (.bin 28 .neq (.t 27) (.k (.v (.c (.int .i64 0))))), .s (.pick 29 (.t 24) (.k (.v (.c .tt))) (.t 28))]) (.cond (.t 29) (.seq (.reg [.s (.load 30 true 19 (.t 4)), .s (.store 19 (.t 2) (.t 30)), .s (.mv 3 (.k (.v (.c .ff))))]) (.ret)) (.skip))) (.seq (.reg [.s (.fa 31 (.t 1) 10), .s (.load 32 false 1 (.t 31)), .s (.ia 33 .entry (.t 32) (.k (.v (.c (.int .i64 0))))), .s (.load 34 true 40 (.t 33)), .s (.alloc 5 [.int .i64 0, .ff, .int .i64 0, .int .i64 0, .int .i64 0, .int .i64 0, .int .i64 0, .int .i64 0, .int .i64 0, .int .i64 0, .int .i64 0, .ff, .int .i64 0, .int .i64 0, .int .i64 0, .ff, .int .i64 0, .int .i64 0, .int .i64 0, .int .i64 0, .int .i64 0, .ff, .int .i64 0, .int .i64 0, .int .i64 0, .int .i64 0, .int .i64 0, .int .i64 0, .ff, .int .i64 0, .int .i64 0, .int .i64 0, .int .i64 0, .int .i64 0, .int .i64 0, .ff, .int .i64 0, .int .i64 0, .int .i64 0, .int .i64 0]), .s (.store 40 (.t 5) (.t 34))]) (.seq (.seq (.reg [.s (.fa 35 (.t 5) 12), .s (.fa 36 (.t 35) 0), .s (.load 37 false 1 (.t 36)), .s (.bin 38 .neq (.t 37) (.k (.v (.c (.int .i64 0)))))]) (.cond (.t 38) (.seq (.rgd [] [.s (.fa 39 (.t 5) 12), .s (.fa 40 (.t 39) 0), .s (.load 41 false 1 (.t 40)), .s (.fa 42 (.t 5) 0), .s (.load 43 true 6 (.t 42)), .s (.fa 44 (.t 4) 0), .s (.fa 45 (.t 44) 9), .s (.store 1 (.t 45) (.t 41)), .s (.fa 46 (.t 4) 0), .s (.fa 47 (.t 46) 1), .s (.store 6 (.t 47) (.t 43))] (.tk 0 (.tk 1 (.tk 2 (.tk 3 (.tk 5 (.tk 6 (.alt 4 false (.one 7 true (.tk 8 (.tk 9 (.one 10 true (.done (some [2, 4])))))) (.alt 7 true (.one 4 false (.tk 8 (.tk 9 (.one 10 true (.done (some [2, 4])))))) (.nil)))))))))) (.seq (.reg [.s (.fa 48 (.t 4) 10), .s (.store 1 (.t 48) (.k (.v (.c (.nils .entry)))))]) (.seq (.reg [.s (.fa 49 (.t 4) 17), .s (.store 1 (.t 49) (.k (.v (.c .tt))))]) (.seq (.reg [.s (.load 50 true 19 (.t 4)), .s (.store 19 (.t 2) (.t 50)), .s (.mv 3 (.k (.v (.c .tt))))]) (.ret))))) (.skip))) (.seq (.reg [.s (.fa 51 (.t 4) 0), .s (.fa 52 (.t 5) 12), .s (.load 53 true 22 (.t 52)), .s (.call (some 54) 138 [(.t 51), (.t 53)])]) (.seq (.reg [.s (.fa 55 (.t 4) 10), .s (.load 56 false 1 (.t 55)), .s (.call (some 57) 139 [(.t 56), (.k (.v (.c (.int .i64 0)))), (.k (.v (.c (.int .i64 1))))]), .s (.fa 58 (.t 4) 10), .s (.store 1 (.t 58) (.t 57))]) (.seq (.reg [.s (.fa 59 (.t 1) 18), .s (.load 60 false 1 (.t 59)), .s (.fa 61 (.t 5) 0), .s (.load 62 true 6 (.t 61)), .s (.fa 63 (.t 5) 12), .s (.fa 64 (.t 63) 8), .s (.load 65 true 6 (.t 64)), .s (.call (some 66) 140 [(.t 60), (.t 62), (.t 65)]), .s (.fa 67 (.t 4) 18), .s (.store 1 (.t 67) (.t 66))]) (.seq (.seq (.reg [.s (.fa 68 (.t 5) 12), .s (.fa 69 (.t 68) 21), .s (.load 70 false 1 (.t 69)), .s (.bin 71 .geq (.t 70) (.k (.v (.c (.int .i64 0)))))]) (.cond (.t 71) (.seq (.reg [.s (.fa 72 (.t 4) 10), .s (.store 1 (.t 72) (.k (.v (.c (.nils .entry)))))]) (.seq (.reg [.s (.fa 73 (.t 4) 0), .s (.fa 74 (.t 73) 1), .s (.load 75 true 6 (.t 74)), .s (.fa 76 (.t 4) 11), .s (.store 6 (.t 76) (.t 75))]) (.reg [.s (.fa 77 (.t 4) 17), .s (.store 1 (.t 77) (.k (.v (.c .ff))))]))) (.skip))) (.seq (.reg [.s (.load 78 true 19 (.t 4)), .s (.store 19 (.t 2) (.t 78)), .s (.mv 3 (.k (.v (.c .tt))))]) (.ret)))))))))))⟩
def c_impl_Commit : Fun := ⟨71, [], fun ts K => as1 ts fun t0 => arG pCoreT t0 fun c => chk (LCore c 2147483647) (K (coreT (commitC c)) [])⟩
theorem run_impl_Commit (c : Core) (hpre : LCore c 2147483647) : runK [c_impl_CoreOk, c_impl_cloneCore, c_impl_State_put_v_Core, c_slices_Delete_Entry, c_impl_Learn] (0) [] pf_impl_Commit [tG (c.tc false [])] fun r o => r = coreT (commitC c) ∧ o = [] := by
  have n0 := @commitC_no c
  have n1 := @commitC_nr c
  have n2 := @commitC_t c
  have n3 := @commitC_d c
  have n4 := @commitC_0 c
  have n5 := @ncm c
  have hw : win c.rob (0 + Int.toNat 1) ((c.rob.length : Int) - 1).toNat = c.rob.drop 1 := by
    unfold win; rw [show 0 + Int.toNat 1 = 1 from rfl, List.take_of_length_le (by rw [List.length_drop]; omega)]
  have hwl : (c.rob.drop 1).length = c.rob.length - 1 := List.length_drop
  conv => whnf
  repeat' (first | (refine sel_i (fun h => ?_) (fun h => ?_) <;> conv => whnf) | (refine chk_c ?_ ?_ <;> conv => whnf) | (refine And.intro ?_ rfl) | (refine And.intro ?_ ?_ <;> conv => whnf))
  all_goals (try simp only [etaKey, etaWord, etaInst, etaEff, etaEntry, etaMemory, etaState, etaCore, Bool.not_eq_true', Bool.not_eq_false', bne_iff_ne, ne_eq, bne_eq_false_iff_eq, eqLen0, decide_eq_true_eq, decide_eq_false_iff_not, ge_iff_le, hw, hwl, List.nil_append, List.length_nil, show c.rob.getD (Int.toNat 0) (FT.zero .entry) = atE c 0 from rfl] at *)
  all_goals (try have hc := coreOk_len (c := c) (by assumption))
  all_goals first
    | trivial
    | (refine ⟨?_⟩; first | assumption | exact coreOk_l (by assumption) | exact hc.1 | omega | (refine ⟨by omega, by omega, by omega, by omega⟩) | (show (0 : Nat) < _; omega))
    | (rw [n0 (by assumption)]; rfl)
    | (rw [n1 (by assumption) (by first | exact .inl (by assumption) | exact .inr (.inl (by assumption)) | exact .inr (.inr (by assumption)))]; rfl)
    | (rw [n2 (by assumption) (n5 (by assumption) (by assumption) (by assumption)) (by assumption)]; rfl)
    | (rw [n3 (by assumption) (n5 (by assumption) (by assumption) (by assumption)) (by assumption) (by assumption)]; rfl)
    | (rw [n4 (by assumption) (n5 (by assumption) (by assumption) (by assumption)) (by assumption) (by assumption)]; rfl)
    | trace_state
theorem ok_impl_Commit : FunOk Tryz.prog c_impl_Commit := funOk (E := [c_impl_CoreOk, c_impl_cloneCore, c_impl_State_put_v_Core, c_slices_Delete_Entry, c_impl_Learn]) (envOk_cons ok_impl_CoreOk (envOk_cons ok_impl_cloneCore (envOk_cons ok_impl_State_put_v_Core (envOk_cons ok_slices_Delete_Entry (envOk_cons ok_impl_Learn (envOk_nil)))))) mixd Tryz.func71 (pf := pf_impl_Commit) (by kernel_rfl) fun ts K h => by
  obtain ⟨t0, e0, h⟩ := as1_out h
  subst e0
  obtain ⟨c, e1, hq⟩ := arG_out rd_core h
  clear h
  subst e1
  have h := hq
  clear hq
  obtain ⟨hpre, h⟩ := chk_o h
  exact ⟨_, _, h, Nat.le_of_ble_eq_true (show Nat.ble 1 Tryz.f71.ntmps = true by kernel_rfl), _, run_impl_Commit c hpre⟩

def pf_spec_Commit : PF := ⟨[.c 2 true 19, .t 3], .seq (.reg [.s (.box 1 (.t 0)), .s (.alloc 2 [.nils .word, .int .i64 0, .ff, .int .i64 0, .int .i64 0, .int .i64 0, .int .i64 0, .nils .word, .nils .bool, .int .i64 0, .nils .entry, .int .i64 0, .ff, .int .i64 0, .int .i64 0, .int .i64 0, .int .i64 0, .ff, .nils (.int .i64)]), .s (.mv 3 (.k (.v (.c .ff))))]) (.seq (.seq (.reg [.s (.load 6 true 19 (.t 1)), .s (.call (some 7) 42 [(.t 6)]), .s (.bnot 8 (.t 7))]) (.cond (.t 8) (.seq (.reg [.s (.build 9 [.nils .word, .int .i64 0, .ff, .int .i64 0, .int .i64 0, .int .i64 0, .int .i64 0, .nils .word, .nils .bool, .int .i64 0, .nils .entry, .int .i64 0, .ff, .int .i64 0, .int .i64 0, .int .i64 0, .int .i64 0, .ff, .nils (.int .i64)] []), .s (.store 19 (.t 2) (.t 9)), .s (.mv 3 (.k (.v (.c .ff))))]) (.ret)) (.skip))) (.seq (.reg [.s (.load 10 true 19 (.t 1)), .s (.call (some 11) 83 [(.t 10)]), .s (.alloc 4 [.nils .word, .int .i64 0, .ff, .int .i64 0, .int .i64 0, .int .i64 0, .int .i64 0, .nils .word, .nils .bool, .int .i64 0, .nils .entry, .int .i64 0, .ff, .int .i64 0, .int .i64 0, .int .i64 0, .int .i64 0, .ff, .nils (.int .i64)]), .s (.store 19 (.t 4) (.t 11))]) (.seq (.seq (.reg [.s (.fa 12 (.t 1) 10), .s (.load 13 false 1 (.t 12)), .s (.len 14 false (.t 13)), .s (.bin 15 .eql (.t 14) (.k (.v (.c (.int .i64 0))))), .s (.mv 16 (.t 15)), .g 16 false (some 17) (.fa 17 (.t 1) 10), .g 16 false (some 18) (.load 18 false 1 (.t 17)), .g 16 false (some 19) (.ia 19 .entry (.t 18) (.k (.v (.c (.int .i64 0))))), .g 16 false (some 20) (.fa 20 (.t 19) 11), .g 16 false (some 21) (.load 21 false 1 (.t 20)), .g 16 false (some 22) (.bnot 22 (.t 21)), .s (.pick 23 (.t 16) (.k (.v (.c .tt))) (.t 22)), .s (.mv 24 (.t 23)), .g 24 false (some 25) (.fa 25 (.t 1) 0), .g 24 false (some 26) (.fa 26 (.t 25) 9), .g 24 false (some 27) (.load 27 false 1 (.t 26)), .g 24 false (some 28) (.bin 28 .neq (.t 27) (.k (.v (.c (.int .i64 0))))), .s (.pick 29 (.t 24) (.k (.v (.c .tt))) (.t 28))]) (.cond (.t 29) (.seq (.reg [.s (.load 30 true 19 (.t 4)), .s (.store 19 (.t 2) (.t 30)), .s (.mv 3 (.k (.v (.c .ff))))]) (.ret)) (.skip))) (.seq (.reg [.s (.fa 31 (.t 1) 10), .s (.load 32 false 1 (.t 31)), .s (.ia 33 .entry (.t 32) (.k (.v (.c (.int .i64 0))))), .s (.load 34 true 40 (.t 33)), .s (.alloc 5 [.int .i64 0, .ff, .int .i64 0, .int .i64 0, .int .i64 0, .int .i64 0, .int .i64 0, .int .i64 0, .int .i64 0, .int .i64 0, .int .i64 0, .ff, .int .i64 0, .int .i64 0, .int .i64 0, .ff, .int .i64 0, .int .i64 0, .int .i64 0, .int .i64 0, .int .i64 0, .ff, .int .i64 0, .int .i64 0, .int .i64 0, .int .i64 0, .int .i64 0, .int .i64 0, .ff, .int .i64 0, .int .i64 0, .int .i64 0, .int .i64 0, .int .i64 0, .int .i64 0, .ff, .int .i64 0, .int .i64 0, .int .i64 0, .int .i64 0]), .s (.store 40 (.t 5) (.t 34))]) (.seq (.seq (.reg [.s (.fa 35 (.t 5) 12), .s (.fa 36 (.t 35) 0), .s (.load 37 false 1 (.t 36)), .s (.bin 38 .neq (.t 37) (.k (.v (.c (.int .i64 0)))))]) (.cond (.t 38) (.seq (.reg [.s (.fa 39 (.t 5) 12), .s (.fa 40 (.t 39) 0), .s (.load 41 false 1 (.t 40)), .s (.fa 42 (.t 4) 0), .s (.fa 43 (.t 42) 9), .s (.store 1 (.t 43) (.t 41))]) (.seq (.reg [.s (.fa 44 (.t 5) 0), .s (.load 45 true 6 (.t 44)), .s (.fa 46 (.t 4) 0), .s (.fa 47 (.t 46) 1), .s (.store 6 (.t 47) (.t 45))]) (.seq (.reg [.s (.fa 48 (.t 4) 10), .s (.store 1 (.t 48) (.k (.v (.c (.nils .entry)))))]) (.seq (.reg [.s (.fa 49 (.t 4) 17), .s (.store 1 (.t 49) (.k (.v (.c .tt))))]) (.seq (.reg [.s (.load 50 true 19 (.t 4)), .s (.store 19 (.t 2) (.t 50)), .s (.mv 3 (.k (.v (.c .tt))))]) (.ret)))))) (.skip))) (.seq (.reg [.s (.fa 51 (.t 4) 0), .s (.load 52 true 10 (.t 51)), .s (.fa 53 (.t 5) 12), .s (.load 54 true 22 (.t 53)), .s (.call (some 55) 150 [(.t 52), (.t 54)]), .s (.fa 56 (.t 4) 0), .s (.store 10 (.t 56) (.t 55))]) (.seq (.reg [.s (.bs 57 .entry []), .s (.fa 58 (.t 1) 10), .s (.load 59 false 1 (.t 58)), .s (.slc 60 .entry (.t 59) (some (.k (.v (.c (.int .i64 1))))) none), .s (.app 61 .entry (.t 57) (.t 60)), .s (.fa 62 (.t 4) 10), .s (.store 1 (.t 62) (.t 61))]) (.seq (.reg [.s (.fa 63 (.t 1) 18), .s (.load 64 false 1 (.t 63)), .s (.fa 65 (.t 5) 0), .s (.load 66 true 6 (.t 65)), .s (.fa 67 (.t 5) 12), .s (.fa 68 (.t 67) 8), .s (.load 69 true 6 (.t 68)), .s (.call (some 70) 151 [(.t 64), (.t 66), (.t 69)]), .s (.fa 71 (.t 4) 18), .s (.store 1 (.t 71) (.t 70))]) (.seq (.seq (.reg [.s (.fa 72 (.t 5) 12), .s (.fa 73 (.t 72) 21), .s (.load 74 false 1 (.t 73)), .s (.bin 75 .geq (.t 74) (.k (.v (.c (.int .i64 0)))))]) (.cond (.t 75) (.seq (.reg [.s (.fa 76 (.t 4) 10), .s (.store 1 (.t 76) (.k (.v (.c (.nils .entry)))))]) (.seq (.reg [.s (.fa 77 (.t 4) 0), .s (.fa 78 (.t 77) 1), .s (.load 79 true 6 (.t 78)), .s (.fa 80 (.t 4) 11), .s (.store 6 (.t 80) (.t 79))]) (.reg [.s (.fa 81 (.t 4) 17), .s (.store 1 (.t 81) (.k (.v (.c .ff))))]))) (.skip))) (.seq (.reg [.s (.load 82 true 19 (.t 4)), .s (.store 19 (.t 2) (.t 82)), .s (.mv 3 (.k (.v (.c .tt))))]) (.ret)))))))))))⟩
def c_spec_Commit : Fun := ⟨82, [], fun ts K => as1 ts fun t0 => arG pCoreT t0 fun c => chk (LCore c 2147483647) (K (coreT (commitC c)) [])⟩
theorem run_spec_Commit (c : Core) (hpre : LCore c 2147483647) : runK [c_spec_CoreOk, c_spec_l12Copy, c_spec_l9Apply, c_spec_Learn] (0) [] pf_spec_Commit [tG (c.tc false [])] fun r o => r = coreT (commitC c) ∧ o = [] := by
  have n0 := @commitC_no c
  have n1 := @commitC_nr c
  have n2 := @commitC_t c
  have n3 := @commitC_d c
  have n4 := @commitC_0 c
  have n5 := @ncm c
  have hw : win c.rob (0 + Int.toNat 1) ((c.rob.length : Int) - 1).toNat = c.rob.drop 1 := by
    unfold win; rw [show 0 + Int.toNat 1 = 1 from rfl, List.take_of_length_le (by rw [List.length_drop]; omega)]
  have hwl : (c.rob.drop 1).length = c.rob.length - 1 := List.length_drop
  conv => whnf
  repeat' (first | (refine sel_i (fun h => ?_) (fun h => ?_) <;> conv => whnf) | (refine chk_c ?_ ?_ <;> conv => whnf) | (refine And.intro ?_ rfl) | (refine And.intro ?_ ?_ <;> conv => whnf))
  all_goals (try simp only [etaKey, etaWord, etaInst, etaEff, etaEntry, etaMemory, etaState, etaCore, Bool.not_eq_true', Bool.not_eq_false', bne_iff_ne, ne_eq, bne_eq_false_iff_eq, eqLen0, decide_eq_true_eq, decide_eq_false_iff_not, ge_iff_le, hw, hwl, List.nil_append, List.length_nil, show c.rob.getD (Int.toNat 0) (FT.zero .entry) = atE c 0 from rfl] at *)
  all_goals (try have hc := coreOk_len (c := c) (by assumption))
  all_goals first
    | trivial
    | (refine ⟨?_⟩; first | assumption | exact coreOk_l (by assumption) | exact hc.1 | omega | (refine ⟨by omega, by omega, by omega, by omega⟩) | (show (0 : Nat) < _; omega))
    | (rw [n0 (by assumption)]; rfl)
    | (rw [n1 (by assumption) (by first | exact .inl (by assumption) | exact .inr (.inl (by assumption)) | exact .inr (.inr (by assumption)))]; rfl)
    | (rw [n2 (by assumption) (n5 (by assumption) (by assumption) (by assumption)) (by assumption)]; rfl)
    | (rw [n3 (by assumption) (n5 (by assumption) (by assumption) (by assumption)) (by assumption) (by assumption)]; rfl)
    | (rw [n4 (by assumption) (n5 (by assumption) (by assumption) (by assumption)) (by assumption) (by assumption)]; rfl)
    | trace_state
theorem ok_spec_Commit : FunOk Tryz.prog c_spec_Commit := funOk (E := [c_spec_CoreOk, c_spec_l12Copy, c_spec_l9Apply, c_spec_Learn]) (envOk_cons ok_spec_CoreOk (envOk_cons ok_spec_l12Copy (envOk_cons ok_spec_l9Apply (envOk_cons ok_spec_Learn (envOk_nil))))) mixd Tryz.func82 (pf := pf_spec_Commit) (by kernel_rfl) fun ts K h => by
  obtain ⟨t0, e0, h⟩ := as1_out h
  subst e0
  obtain ⟨c, e1, hq⟩ := arG_out rd_core h
  clear h
  subst e1
  have h := hq
  clear hq
  obtain ⟨hpre, h⟩ := chk_o h
  exact ⟨_, _, h, Nat.le_of_ble_eq_true (show Nat.ble 1 Tryz.f82.ntmps = true by kernel_rfl), _, run_spec_Commit c hpre⟩

def pickC (l : List Inst) (c : Core) (p : Pick) : Core × Bool :=
  if coreOk c = false then (zCore, false) else if p.kind = 1 then pullC l c else if p.kind = 2 then doC c p.n else if p.kind = 3 then commitC c else
  if p.kind = 4 ∧ inR p.n 0 23 = true then (⟨⟨c.s.regs, c.s.pc, sweepM c.s.mem p.n, c.s.trap⟩, c.rob, c.next, c.stop, c.guesses⟩, true) else (c, false)
theorem coreOk_mem {c : Core} (h : coreOk c = true) : memoryOk c.s.mem = true := (stateOk_iff.1 (coreOk_iff.1 h).1).2.2.2.1
theorem sweepM_out {m : Mem} {n : Int} (h : memoryOk m = true) (h2 : inR n 0 23 = false) : sweepM m n = m := by
  unfold sweepM; rw [if_pos h, if_neg (by rw [h2]; decide)]
theorem pickC_no {l : List Inst} {c : Core} {p : Pick} (h : coreOk c = false) : pickC l c p = (zCore, false) := if_pos h
theorem pickC_1 {l : List Inst} {c : Core} {p : Pick} (h : coreOk c = true) (h1 : p.kind = 1) : pickC l c p = pullC l c := by
  unfold pickC; rw [if_neg (by rw [h]; decide), if_pos h1]
theorem pickC_2 {l : List Inst} {c : Core} {p : Pick} (h : coreOk c = true) (h1 : p.kind = 2) : pickC l c p = doC c p.n := by
  unfold pickC; rw [if_neg (by rw [h]; decide), if_neg (by omega), if_pos h1]
theorem pickC_3 {l : List Inst} {c : Core} {p : Pick} (h : coreOk c = true) (h1 : p.kind = 3) : pickC l c p = commitC c := by
  unfold pickC; rw [if_neg (by rw [h]; decide), if_neg (by omega), if_neg (by omega), if_pos h1]
theorem pickC_4 {l : List Inst} {c : Core} {p : Pick} (h : coreOk c = true) (h1 : p.kind = 4) (h2 : inR p.n 0 23 = true) : pickC l c p = (⟨⟨c.s.regs, c.s.pc, sweepM c.s.mem p.n, c.s.trap⟩, c.rob, c.next, c.stop, c.guesses⟩, true) := by
  unfold pickC; rw [if_neg (by rw [h]; decide), if_neg (by omega), if_neg (by omega), if_neg (by omega), if_pos ⟨h1, h2⟩]
theorem pickC_out {l : List Inst} {c : Core} {p : Pick} (h : coreOk c = true) (h1 : p.kind = 4) (h2 : inR p.n 0 23 = false) : pickC l c p = (c, false) := by
  unfold pickC; rw [if_neg (by rw [h]; decide), if_neg (by omega), if_neg (by omega), if_neg (by omega), if_neg (fun q => by rw [h2] at q; cases q.2)]
theorem pickC_x {l : List Inst} {c : Core} {p : Pick} (h : coreOk c = true) (h1 : ¬ p.kind = 1) (h2 : ¬ p.kind = 2) (h3 : ¬ p.kind = 3) (h4 : ¬ p.kind = 4) : pickC l c p = (c, false) := by
  unfold pickC; rw [if_neg (by rw [h]; decide), if_neg h1, if_neg h2, if_neg h3, if_neg (fun q => h4 q.1)]

def pf_impl_CorePick : PF := ⟨[.c 6 true 19, .t 7], .seq (.reg [.s (.box 4 (.t 1)), .s (.box 5 (.t 2)), .s (.alloc 6 [.nils .word, .int .i64 0, .ff, .int .i64 0, .int .i64 0, .int .i64 0, .int .i64 0, .nils .word, .nils .bool, .int .i64 0, .nils .entry, .int .i64 0, .ff, .int .i64 0, .int .i64 0, .int .i64 0, .int .i64 0, .ff, .nils (.int .i64)]), .s (.mv 7 (.k (.v (.c .ff))))]) (.seq (.seq (.reg [.s (.load 9 true 19 (.t 4)), .s (.call (some 10) 51 [(.t 9)]), .s (.bnot 11 (.t 10))]) (.cond (.t 11) (.seq (.reg [.s (.build 12 [.nils .word, .int .i64 0, .ff, .int .i64 0, .int .i64 0, .int .i64 0, .int .i64 0, .nils .word, .nils .bool, .int .i64 0, .nils .entry, .int .i64 0, .ff, .int .i64 0, .int .i64 0, .int .i64 0, .int .i64 0, .ff, .nils (.int .i64)] []), .s (.store 19 (.t 6) (.t 12)), .s (.mv 7 (.k (.v (.c .ff))))]) (.ret)) (.skip))) (.seq (.seq (.reg [.s (.fa 13 (.t 5) 0), .s (.load 14 false 1 (.t 13))]) (.blk 0 (.seq (.reg [.s (.bin 16 .eql (.t 14) (.k (.v (.c (.int .i64 1))))), .s (.mv 15 (.t 16))]) (.cond (.t 15) (.seq (.reg [.s (.mv 17 (.t 0)), .s (.load 18 true 19 (.t 4)), .s (.call (some 19) 69 [(.t 17), (.t 18)]), .s (.ext 20 (.t 19) 0), .s (.ext 21 (.t 19) 1), .s (.store 19 (.t 6) (.t 20)), .s (.mv 7 (.t 21))]) (.ret)) (.seq (.reg [.s (.bin 23 .eql (.t 14) (.k (.v (.c (.int .i64 2))))), .s (.mv 22 (.t 23))]) (.cond (.t 22) (.seq (.reg [.s (.load 24 true 19 (.t 4)), .s (.fa 25 (.t 5) 1), .s (.load 26 false 1 (.t 25)), .s (.call (some 27) 70 [(.t 24), (.t 26)]), .s (.ext 28 (.t 27) 0), .s (.ext 29 (.t 27) 1), .s (.store 19 (.t 6) (.t 28)), .s (.mv 7 (.t 29))]) (.ret)) (.seq (.reg [.s (.bin 31 .eql (.t 14) (.k (.v (.c (.int .i64 3))))), .s (.mv 30 (.t 31))]) (.cond (.t 30) (.seq (.reg [.s (.load 32 true 19 (.t 4)), .s (.call (some 33) 71 [(.t 32)]), .s (.ext 34 (.t 33) 0), .s (.ext 35 (.t 33) 1), .s (.store 19 (.t 6) (.t 34)), .s (.mv 7 (.t 35))]) (.ret)) (.skip))))))))) (.seq (.reg [.s (.load 36 true 19 (.t 4)), .s (.call (some 37) 72 [(.t 36)]), .s (.alloc 8 [.nils .word, .int .i64 0, .ff, .int .i64 0, .int .i64 0, .int .i64 0, .int .i64 0, .nils .word, .nils .bool, .int .i64 0, .nils .entry, .int .i64 0, .ff, .int .i64 0, .int .i64 0, .int .i64 0, .int .i64 0, .ff, .nils (.int .i64)]), .s (.store 19 (.t 8) (.t 37))]) (.seq (.seq (.reg [.s (.fa 38 (.t 5) 0), .s (.load 39 false 1 (.t 38)), .s (.bin 40 .neq (.t 39) (.k (.v (.c (.int .i64 4))))), .s (.mv 41 (.t 40)), .g 41 false (some 42) (.fa 42 (.t 5) 1), .g 41 false (some 43) (.load 43 false 1 (.t 42)), .g 41 false (some 44) (.call (some 44) 73 [(.t 43), (.k (.v (.c (.int .i64 0)))), (.k (.v (.c (.int .i64 23))))]), .g 41 false (some 45) (.bnot 45 (.t 44)), .s (.pick 46 (.t 41) (.k (.v (.c .tt))) (.t 45))]) (.cond (.t 46) (.seq (.reg [.s (.load 47 true 19 (.t 8)), .s (.store 19 (.t 6) (.t 47)), .s (.mv 7 (.k (.v (.c .ff))))]) (.ret)) (.skip))) (.seq (.reg [.s (.fa 48 (.t 4) 0), .s (.fa 49 (.t 48) 7), .s (.load 50 true 2 (.t 49)), .s (.fa 51 (.t 5) 1), .s (.load 52 false 1 (.t 51)), .s (.call (some 53) 74 [(.t 50), (.t 52)]), .s (.fa 54 (.t 8) 0), .s (.fa 55 (.t 54) 7), .s (.store 2 (.t 55) (.t 53))]) (.seq (.reg [.s (.load 56 true 19 (.t 8)), .s (.store 19 (.t 6) (.t 56)), .s (.mv 7 (.k (.v (.c .tt))))]) (.ret)))))))⟩
def c_impl_CorePick : Fun := ⟨26, [], fun ts K => as3 ts fun t0 t1 t2 => arC (pL .inst) t0 fun l => arG pCoreT t1 fun c => arG pPickT t2 fun p => chk (l.length ≤ 2147483647 ∧ LCore c 2147483647) (K (coreT (pickC l c p)) [])⟩
theorem run_impl_CorePick (l : List (FT.Ty .inst)) (c : Core) (p : Pick) (hpre : l.length ≤ 2147483647 ∧ LCore c 2147483647) : runK [c_impl_CoreOk, c_impl_Pull, c_impl_Do, c_impl_Commit, c_impl_cloneCore, c_impl_in, c_impl_Sweep] (0) [] pf_impl_CorePick [tL false .inst l, tG (c.tc false []), tG (p.tc [])] fun r o => r = coreT (pickC l c p) ∧ o = [] := by
  obtain ⟨l0, l1⟩ := hpre
  have n0 := @pickC_no l c p
  have n1 := @pickC_1 l c p
  have n2 := @pickC_2 l c p
  have n3 := @pickC_3 l c p
  have n4 := @pickC_4 l c p
  have n5 := @pickC_out l c p
  have n6 := @pickC_x l c p
  have n7 := @coreOk_mem c
  have n8 := @sweepM_out c.s.mem p.n
  have lm : LMem c.s.mem 2147483647 := l1.1.2
  conv => whnf
  repeat' (first | (refine sel_i (fun h => ?_) (fun h => ?_) <;> conv => whnf) | (refine chk_c ?_ ?_ <;> conv => whnf) | (refine And.intro ?_ rfl) | (refine And.intro ?_ ?_ <;> conv => whnf))
  all_goals (try simp only [etaKey, etaWord, etaInst, etaEff, etaEntry, etaMemory, etaState, etaCore, Bool.not_eq_true', Bool.not_eq_false', bne_iff_ne, ne_eq, bne_eq_false_iff_eq, beq_iff_eq, beq_eq_false_iff_ne, decide_eq_true_eq, decide_eq_false_iff_not, ge_iff_le] at *)
  all_goals first
    | (refine ⟨?_⟩; first | assumption | exact ⟨l0, l1⟩)
    | (rw [n0 (by assumption)]; rfl)
    | (rw [n1 (by assumption) (by assumption)]; rfl)
    | (rw [n2 (by assumption) (by assumption)]; rfl)
    | (rw [n3 (by assumption) (by assumption)]; rfl)
    | (rw [n4 (by assumption) (by assumption) (by assumption)]; rfl)
    | (rw [n5 (by assumption) (by assumption) (by assumption)]; rfl)
    | (rw [n6 (by assumption) (by assumption) (by assumption) (by assumption) (by assumption)]; rfl)
    | (cases hq : inR p.n 0 23
       · rw [n5 (by assumption) (by assumption) hq, n8 (n7 (by assumption)) hq]; rfl
       · rw [n4 (by assumption) (by assumption) hq]; rfl)
    | trace_state
theorem ok_impl_CorePick : FunOk Tryz.prog c_impl_CorePick := funOk (E := [c_impl_CoreOk, c_impl_Pull, c_impl_Do, c_impl_Commit, c_impl_cloneCore, c_impl_in, c_impl_Sweep]) (envOk_cons ok_impl_CoreOk (envOk_cons ok_impl_Pull (envOk_cons ok_impl_Do (envOk_cons ok_impl_Commit (envOk_cons ok_impl_cloneCore (envOk_cons ok_impl_in (envOk_cons ok_impl_Sweep (envOk_nil)))))))) mixd Tryz.func26 (pf := pf_impl_CorePick) (by kernel_rfl) fun ts K h => by
  obtain ⟨t0, t1, t2, e0, h⟩ := as3_out h
  subst e0
  obtain ⟨l, e1, hq⟩ := arC_out (rd_l .inst) h
  clear h
  subst e1
  have h := hq
  clear hq
  obtain ⟨c, e1, hq⟩ := arG_out rd_core h
  clear h
  subst e1
  have h := hq
  clear hq
  obtain ⟨p, e1, hq⟩ := arG_out rd_pick h
  clear h
  subst e1
  have h := hq
  clear hq
  obtain ⟨hpre, h⟩ := chk_o h
  exact ⟨_, _, h, Nat.le_of_ble_eq_true (show Nat.ble 3 Tryz.f26.ntmps = true by kernel_rfl), _, run_impl_CorePick l c p hpre⟩

def pf_spec_CorePick : PF := ⟨[.c 6 true 19, .t 7], .seq (.reg [.s (.box 4 (.t 1)), .s (.box 5 (.t 2)), .s (.alloc 6 [.nils .word, .int .i64 0, .ff, .int .i64 0, .int .i64 0, .int .i64 0, .int .i64 0, .nils .word, .nils .bool, .int .i64 0, .nils .entry, .int .i64 0, .ff, .int .i64 0, .int .i64 0, .int .i64 0, .int .i64 0, .ff, .nils (.int .i64)]), .s (.mv 7 (.k (.v (.c .ff))))]) (.seq (.seq (.reg [.s (.load 15 true 19 (.t 4)), .s (.call (some 16) 42 [(.t 15)]), .s (.bnot 17 (.t 16))]) (.cond (.t 17) (.seq (.reg [.s (.build 18 [.nils .word, .int .i64 0, .ff, .int .i64 0, .int .i64 0, .int .i64 0, .int .i64 0, .nils .word, .nils .bool, .int .i64 0, .nils .entry, .int .i64 0, .ff, .int .i64 0, .int .i64 0, .int .i64 0, .int .i64 0, .ff, .nils (.int .i64)] []), .s (.store 19 (.t 6) (.t 18)), .s (.mv 7 (.k (.v (.c .ff))))]) (.ret)) (.skip))) (.seq (.seq (.reg [.s (.fa 19 (.t 5) 0), .s (.load 20 false 1 (.t 19))]) (.blk 0 (.seq (.reg [.s (.bin 22 .eql (.t 20) (.k (.v (.c (.int .i64 1))))), .s (.mv 21 (.t 22))]) (.cond (.t 21) (.seq (.reg [.s (.mv 24 (.t 0)), .s (.load 25 true 19 (.t 4)), .s (.call (some 26) 80 [(.t 24), (.t 25)]), .s (.mv 23 (.t 26)), .s (.ext 27 (.t 23) 0), .s (.ext 28 (.t 23) 1), .s (.alloc 8 [.nils .word, .int .i64 0, .ff, .int .i64 0, .int .i64 0, .int .i64 0, .int .i64 0, .nils .word, .nils .bool, .int .i64 0, .nils .entry, .int .i64 0, .ff, .int .i64 0, .int .i64 0, .int .i64 0, .int .i64 0, .ff, .nils (.int .i64)]), .s (.store 19 (.t 8) (.t 27)), .s (.mv 9 (.t 28))]) (.seq (.reg [.s (.load 29 true 19 (.t 8)), .s (.mv 30 (.t 9)), .s (.store 19 (.t 6) (.t 29)), .s (.mv 7 (.t 30))]) (.ret))) (.seq (.reg [.s (.bin 32 .eql (.t 20) (.k (.v (.c (.int .i64 2))))), .s (.mv 31 (.t 32))]) (.cond (.t 31) (.seq (.reg [.s (.load 34 true 19 (.t 4)), .s (.fa 35 (.t 5) 1), .s (.load 36 false 1 (.t 35)), .s (.call (some 37) 81 [(.t 34), (.t 36)]), .s (.mv 33 (.t 37)), .s (.ext 38 (.t 33) 0), .s (.ext 39 (.t 33) 1), .s (.alloc 10 [.nils .word, .int .i64 0, .ff, .int .i64 0, .int .i64 0, .int .i64 0, .int .i64 0, .nils .word, .nils .bool, .int .i64 0, .nils .entry, .int .i64 0, .ff, .int .i64 0, .int .i64 0, .int .i64 0, .int .i64 0, .ff, .nils (.int .i64)]), .s (.store 19 (.t 10) (.t 38)), .s (.mv 11 (.t 39))]) (.seq (.reg [.s (.load 40 true 19 (.t 10)), .s (.mv 41 (.t 11)), .s (.store 19 (.t 6) (.t 40)), .s (.mv 7 (.t 41))]) (.ret))) (.seq (.reg [.s (.bin 43 .eql (.t 20) (.k (.v (.c (.int .i64 3))))), .s (.mv 42 (.t 43))]) (.cond (.t 42) (.seq (.reg [.s (.load 45 true 19 (.t 4)), .s (.call (some 46) 82 [(.t 45)]), .s (.mv 44 (.t 46)), .s (.ext 47 (.t 44) 0), .s (.ext 48 (.t 44) 1), .s (.alloc 12 [.nils .word, .int .i64 0, .ff, .int .i64 0, .int .i64 0, .int .i64 0, .int .i64 0, .nils .word, .nils .bool, .int .i64 0, .nils .entry, .int .i64 0, .ff, .int .i64 0, .int .i64 0, .int .i64 0, .int .i64 0, .ff, .nils (.int .i64)]), .s (.store 19 (.t 12) (.t 47)), .s (.mv 13 (.t 48))]) (.seq (.reg [.s (.load 49 true 19 (.t 12)), .s (.mv 50 (.t 13)), .s (.store 19 (.t 6) (.t 49)), .s (.mv 7 (.t 50))]) (.ret))) (.seq (.reg [.s (.bin 52 .eql (.t 20) (.k (.v (.c (.int .i64 4))))), .s (.mv 51 (.t 52))]) (.cond (.t 51) (.seq (.reg [.s (.load 53 true 19 (.t 4)), .s (.call (some 54) 83 [(.t 53)]), .s (.alloc 14 [.nils .word, .int .i64 0, .ff, .int .i64 0, .int .i64 0, .int .i64 0, .int .i64 0, .nils .word, .nils .bool, .int .i64 0, .nils .entry, .int .i64 0, .ff, .int .i64 0, .int .i64 0, .int .i64 0, .int .i64 0, .ff, .nils (.int .i64)]), .s (.store 19 (.t 14) (.t 54))]) (.seq (.reg [.s (.fa 55 (.t 4) 0), .s (.fa 56 (.t 55) 7), .s (.load 57 true 2 (.t 56)), .s (.fa 58 (.t 5) 1), .s (.load 59 false 1 (.t 58)), .s (.call (some 60) 84 [(.t 57), (.t 59)]), .s (.fa 61 (.t 14) 0), .s (.fa 62 (.t 61) 7), .s (.store 2 (.t 62) (.t 60))]) (.seq (.rgd [] [.s (.load 63 true 19 (.t 14)), .s (.fa 64 (.t 5) 1), .s (.load 65 false 1 (.t 64)), .s (.call (some 66) 77 [(.t 65), (.k (.v (.c (.int .i64 0)))), (.k (.v (.c (.int .i64 23))))]), .s (.store 19 (.t 6) (.t 63)), .s (.mv 7 (.t 66))] (.tk 0 (.tk 1 (.tk 2 (.one 3 false (.one 4 true (.tk 5 (.done none)))))))) (.ret)))) (.skip))))))))))) (.seq (.reg [.s (.load 67 true 19 (.t 4)), .s (.call (some 68) 83 [(.t 67)]), .s (.store 19 (.t 6) (.t 68)), .s (.mv 7 (.k (.v (.c .ff))))]) (.ret))))⟩
def c_spec_CorePick : Fun := ⟨30, [], fun ts K => as3 ts fun t0 t1 t2 => arC (pL .inst) t0 fun l => arG pCoreT t1 fun c => arG pPickT t2 fun p => chk (l.length ≤ 2147483647 ∧ LCore c 2147483647) (K (coreT (pickC l c p)) [])⟩
theorem run_spec_CorePick (l : List (FT.Ty .inst)) (c : Core) (p : Pick) (hpre : l.length ≤ 2147483647 ∧ LCore c 2147483647) : runK [c_spec_CoreOk, c_spec_l1In, c_spec_Pull, c_spec_Do, c_spec_Commit, c_spec_l12Copy, c_spec_Sweep] (0) [] pf_spec_CorePick [tL false .inst l, tG (c.tc false []), tG (p.tc [])] fun r o => r = coreT (pickC l c p) ∧ o = [] := by
  obtain ⟨l0, l1⟩ := hpre
  have n0 := @pickC_no l c p
  have n1 := @pickC_1 l c p
  have n2 := @pickC_2 l c p
  have n3 := @pickC_3 l c p
  have n4 := @pickC_4 l c p
  have n5 := @pickC_out l c p
  have n6 := @pickC_x l c p
  have n7 := @coreOk_mem c
  have n8 := @sweepM_out c.s.mem p.n
  have lm : LMem c.s.mem 2147483647 := l1.1.2
  conv => whnf
  repeat' (first | (refine sel_i (fun h => ?_) (fun h => ?_) <;> conv => whnf) | (refine chk_c ?_ ?_ <;> conv => whnf) | (refine And.intro ?_ rfl) | (refine And.intro ?_ ?_ <;> conv => whnf))
  all_goals (try simp only [etaKey, etaWord, etaInst, etaEff, etaEntry, etaMemory, etaState, etaCore, Bool.not_eq_true', Bool.not_eq_false', bne_iff_ne, ne_eq, bne_eq_false_iff_eq, beq_iff_eq, beq_eq_false_iff_ne, decide_eq_true_eq, decide_eq_false_iff_not, ge_iff_le] at *)
  all_goals first
    | (refine ⟨?_⟩; first | assumption | exact ⟨l0, l1⟩)
    | (rw [n0 (by assumption)]; rfl)
    | (rw [n1 (by assumption) (by assumption)]; rfl)
    | (rw [n2 (by assumption) (by assumption)]; rfl)
    | (rw [n3 (by assumption) (by assumption)]; rfl)
    | (rw [n4 (by assumption) (by assumption) (by assumption)]; rfl)
    | (rw [n5 (by assumption) (by assumption) (by assumption)]; rfl)
    | (rw [n6 (by assumption) (by assumption) (by assumption) (by assumption) (by assumption)]; rfl)
    | (cases hq : inR p.n 0 23
       · rw [n5 (by assumption) (by assumption) hq, n8 (n7 (by assumption)) hq]; rfl
       · rw [n4 (by assumption) (by assumption) hq]; rfl)
    | trace_state
theorem ok_spec_CorePick : FunOk Tryz.prog c_spec_CorePick := funOk (E := [c_spec_CoreOk, c_spec_l1In, c_spec_Pull, c_spec_Do, c_spec_Commit, c_spec_l12Copy, c_spec_Sweep]) (envOk_cons ok_spec_CoreOk (envOk_cons ok_spec_l1In (envOk_cons ok_spec_Pull (envOk_cons ok_spec_Do (envOk_cons ok_spec_Commit (envOk_cons ok_spec_l12Copy (envOk_cons ok_spec_Sweep (envOk_nil)))))))) mixd Tryz.func30 (pf := pf_spec_CorePick) (by kernel_rfl) fun ts K h => by
  obtain ⟨t0, t1, t2, e0, h⟩ := as3_out h
  subst e0
  obtain ⟨l, e1, hq⟩ := arC_out (rd_l .inst) h
  clear h
  subst e1
  have h := hq
  clear hq
  obtain ⟨c, e1, hq⟩ := arG_out rd_core h
  clear h
  subst e1
  have h := hq
  clear hq
  obtain ⟨p, e1, hq⟩ := arG_out rd_pick h
  clear h
  subst e1
  have h := hq
  clear hq
  obtain ⟨hpre, h⟩ := chk_o h
  exact ⟨_, _, h, Nat.le_of_ble_eq_true (show Nat.ble 3 Tryz.f30.ntmps = true by kernel_rfl), _, run_spec_CorePick l c p hpre⟩

theorem putE_lenOk {s : State} {e : Eff} (h : LenOk s) : LenOk (putE s e) := by
  obtain ⟨h1, h2, h3⟩ := h
  unfold putE
  refine ⟨?_, ?_, ?_⟩
  · dsimp only; split
    · rw [List.length_set]; exact h1
    · exact h1
  · dsimp only; split
    · rw [List.length_set]; exact h2
    · exact h2
  · dsimp only; split
    · rw [List.length_set]; exact h3
    · exact h3
theorem learnG_len (g : List Int) (pc nx : Word) : (learnG g pc nx).length = g.length := by
  unfold learnG; split
  · exact List.length_set ..
  · rfl
theorem sweepM_len {m : Mem} {n : Int} (h : memoryOk m = true) : (sweepM m n).words.length = 24 ∧ (sweepM m n).gone.length = 24 := by
  obtain ⟨h1, h2, _⟩ := memoryOk_iff.1 h
  unfold sweepM
  rw [if_pos h]
  split
  · exact ⟨by dsimp only; rw [List.length_set]; exact h1, h2⟩
  · exact ⟨h1, h2⟩
def Fit (c : Core) : Prop := LenOk c.s ∧ c.rob.length ≤ 7 ∧ c.guesses.length = 48
theorem fit_ok {c : Core} (h : coreOk c = true) : Fit c := by
  obtain ⟨h1, h2, h3⟩ := coreOk_len h
  exact ⟨h1, by omega, h3⟩
theorem Fit.l {c : Core} (h : Fit c) : LCore c 2147483647 := by
  obtain ⟨h1, h2, h3⟩ := h
  exact ⟨h1.l, by omega, by omega⟩
theorem zCore_l : LCore zCore 2147483647 := ⟨⟨Nat.zero_le _, Nat.zero_le _, Nat.zero_le _⟩, Nat.zero_le _, Nat.zero_le _⟩
theorem pullC_fit {l : List Inst} {c : Core} (h : coreOk c = true) : Fit (pullC l c).1 := by
  obtain ⟨h1, h2, h3⟩ := coreOk_len h
  unfold pullC
  rw [if_neg (by rw [h]; decide)]
  split
  · exact fit_ok h
  · split
    · exact ⟨h1, by simp only [List.length_append, List.length_cons, List.length_nil]; omega, h3⟩
    · exact ⟨h1, by simp only [List.length_append, List.length_cons, List.length_nil]; omega, h3⟩
theorem putAt_len (c : Core) (i : Int) : (putAt c i).length = c.rob.length := List.length_set ..
theorem doC_fit {c : Core} {i : Int} (h : coreOk c = true) : Fit (doC c i).1 := by
  obtain ⟨h1, h2, h3⟩ := coreOk_len h
  have hp := putAt_len c i
  unfold doC
  rw [if_neg (by rw [h]; decide)]
  split
  · exact fit_ok h
  · split
    · exact ⟨h1, by simp only [List.length_take]; omega, h3⟩
    · split
      · exact ⟨h1, by simp only [List.length_take]; omega, h3⟩
      · exact ⟨h1, by dsimp only; omega, h3⟩
theorem commitC_fit {c : Core} (h : coreOk c = true) : Fit (commitC c).1 := by
  obtain ⟨h1, h2, h3⟩ := coreOk_len h
  unfold commitC
  rw [if_neg (by rw [h]; decide)]
  split
  · exact fit_ok h
  · split
    · exact ⟨h1, Nat.zero_le _, h3⟩
    · split
      · exact ⟨putE_lenOk h1, Nat.zero_le _, by dsimp only; rw [learnG_len]; exact h3⟩
      · exact ⟨putE_lenOk h1, by simp only [List.length_drop]; omega, by dsimp only; rw [learnG_len]; exact h3⟩
theorem pickC_fit {l : List Inst} {c : Core} {p : Pick} (h : coreOk c = true) : Fit (pickC l c p).1 := by
  have hf := fit_ok h
  unfold pickC
  rw [if_neg (by rw [h]; decide)]
  split
  · exact pullC_fit h
  · split
    · exact doC_fit h
    · split
      · exact commitC_fit h
      · split
        · exact ⟨⟨hf.1.1, sweepM_len (coreOk_mem h)⟩, hf.2.1, hf.2.2⟩
        · exact hf
theorem pickC_l {l : List Inst} {c : Core} {p : Pick} : LCore (pickC l c p).1 2147483647 := by
  cases h : coreOk c with
  | true => exact (pickC_fit h).l
  | false => rw [pickC_no h]; exact zCore_l
theorem pickC_yes {l : List Inst} {c : Core} {p : Pick} (h : (pickC l c p).2 = true) : coreOk c = true ∧ (p.kind = 1 ∨ p.kind = 2 ∨ p.kind = 3 ∨ p.kind = 4) := by
  unfold pickC at h
  split at h
  · cases h
  · rename_i h0
    refine ⟨by simpa using h0, ?_⟩
    split at h
    · left; assumption
    · split at h
      · right; left; assumption
      · split at h
        · right; right; left; assumption
        · split at h
          · rename_i h4; right; right; right; exact h4.1
          · cases h
theorem pullC_noop {l : List Inst} {c : Core} (h : coreOk c = true) (h2 : (pullC l c).2 = false) : (pullC l c).1 = c := by
  unfold pullC at h2 ⊢
  rw [if_neg (by rw [h]; decide)] at h2 ⊢
  split at h2
  · rename_i q; rw [if_pos q]
  · split at h2 <;> cases h2
theorem doC_noop {c : Core} {i : Int} (h : coreOk c = true) (h2 : (doC c i).2 = false) : (doC c i).1 = c := by
  unfold doC at h2 ⊢
  rw [if_neg (by rw [h]; decide)] at h2 ⊢
  split at h2
  · rename_i q; rw [if_pos q]
  · split at h2
    · cases h2
    · split at h2 <;> cases h2
theorem commitC_noop {c : Core} (h : coreOk c = true) (h2 : (commitC c).2 = false) : (commitC c).1 = c := by
  unfold commitC at h2 ⊢
  rw [if_neg (by rw [h]; decide)] at h2 ⊢
  split at h2
  · rename_i q; rw [if_pos q]
  · split at h2
    · cases h2
    · split at h2 <;> cases h2
theorem pickC_noop {l : List Inst} {c : Core} {p : Pick} (h : coreOk c = true) (h2 : (pickC l c p).2 = false) : (pickC l c p).1 = c := by
  by_cases h1 : p.kind = 1
  · rw [pickC_1 h h1] at h2 ⊢; exact pullC_noop h h2
  by_cases h3 : p.kind = 2
  · rw [pickC_2 h h3] at h2 ⊢; exact doC_noop h h2
  by_cases h4 : p.kind = 3
  · rw [pickC_3 h h4] at h2 ⊢; exact commitC_noop h h2
  by_cases h5 : p.kind = 4
  · cases hq : inR p.n 0 23 with
    | true => rw [pickC_4 h h5 hq] at h2; cases h2
    | false => rw [pickC_out h h5 hq]
  · rw [pickC_x h h1 h3 h4 h5]
def oneC (p : Pick) (a b : Core) : Cost :=
  if p.kind = 1 then ⟨1, 0, 0, 0, 0⟩ else if p.kind = 2 then ⟨0, 1, 0, (a.rob.length : Int) - b.rob.length, 0⟩ else
  if p.kind = 3 then (if b.s.trap ≠ 0 then ⟨0, 0, 0, (a.rob.length : Int) - b.rob.length, 0⟩ else ⟨0, 0, 1, (a.rob.length : Int) - b.rob.length - 1, 0⟩) else ⟨0, 0, 0, 0, 1⟩
def addC (k j : Cost) : Cost := ⟨k.pulled + j.pulled, k.done + j.done, k.kept + j.kept, k.back + j.back, k.swept + j.swept⟩
def BndC (k : Cost) (n : Int) : Prop := (-n ≤ k.pulled ∧ k.pulled ≤ n) ∧ (-n ≤ k.done ∧ k.done ≤ n) ∧ (-n ≤ k.kept ∧ k.kept ≤ n) ∧ (-n ≤ k.back ∧ k.back ≤ n) ∧ (-n ≤ k.swept ∧ k.swept ≤ n)
theorem oneC_bnd {p : Pick} {a b : Core} (ha : a.rob.length ≤ 7) (hb : b.rob.length ≤ 7) : BndC (oneC p a b) 8 := by
  unfold oneC
  repeat' split
  all_goals (unfold BndC; dsimp only; omega)
theorem addC_bnd {k j : Cost} {n m : Int} (h : BndC k n) (h2 : BndC j m) : BndC (addC k j) (n + m) := by
  unfold BndC addC at *; dsimp only; omega
def costStep (l : List Inst) (c : Core) (p : Pick) (k : Cost) : Cost := if (pickC l c p).2 then addC k (oneC p c (pickC l c p).1) else k
def costGo (l : List Inst) : List Pick → Core → Cost → Cost
  | [], _, k => k
  | p :: ps, c, k => costGo l ps (pickC l c p).1 (costStep l c p k)
theorem costGo_bad {l : List Inst} : ∀ (ps : List Pick) {c : Core} {k : Cost}, coreOk c = false → costGo l ps c k = k
  | [], _, _, _ => rfl
  | p :: ps, c, k, h => by
    have e : costStep l c p k = k := by unfold costStep; rw [pickC_no h]; rfl
    show costGo l ps (pickC l c p).1 (costStep l c p k) = k
    rw [e, pickC_no h]
    exact costGo_bad ps (by decide)
theorem costGo_skip {l : List Inst} {p : Pick} (ps : List Pick) {c : Core} {k : Cost} (h : (pickC l c p).2 = false) : costGo l ps (pickC l c p).1 k = costGo l ps c k := by
  cases hc : coreOk c with
  | true => rw [pickC_noop hc h]
  | false => rw [pickC_no hc, costGo_bad ps hc, costGo_bad ps (by decide)]
theorem costStep_bnd {l : List Inst} {c : Core} {p : Pick} {k : Cost} {n : Int} (h : BndC k n) (hn : 0 ≤ n) : BndC (costStep l c p k) (n + 8) := by
  unfold costStep
  split
  · rename_i h2
    obtain ⟨hc, _⟩ := pickC_yes h2
    exact addC_bnd h (oneC_bnd (fit_ok hc).2.1 (pickC_fit hc).2.1)
  · unfold BndC at *; omega
def costOf (l : List Inst) (s : State) (ps : List Pick) : Cost × Bool := if stateOk s = true ∧ ps.length ≤ 600 then (costGo l ps (coreNew s) ⟨0, 0, 0, 0, 0⟩, true) else (⟨0, 0, 0, 0, 0⟩, false)
def costT (p : Cost × Bool) : Tree := .tup [.g (p.1.tc []), .c (.bool p.2)]
theorem coreNew_l {s : State} (h : LState s 2147483647) : LCore (coreNew s) 2147483647 := by
  unfold coreNew
  split
  · exact ⟨h, Nat.zero_le _, (by decide : (List.replicate 48 (-1 : Int)).length ≤ 2147483647)⟩
  · exact zCore_l
theorem lenLe600 (n : Nat) : decide ((n : Int) ≤ 600) = decide (n ≤ 600) := decide_eq_decide.2 (by omega)

def pf_impl_judged : PF := ⟨[.t 4], .seq (.reg [.s (.box 2 (.t 0)), .s (.mv 4 (.k (.v (.c .ff))))]) (.seq (.reg [.s (.load 5 true 10 (.t 2)), .s (.call (some 6) 36 [(.t 5)]), .s (.mv 7 (.t 6)), .g 7 true (some 8) (.mv 8 (.t 1)), .g 7 true (some 9) (.len 9 false (.t 8)), .g 7 true (some 10) (.bin 10 .leq (.t 9) (.k (.v (.c (.int .i64 600))))), .s (.pick 11 (.t 7) (.t 10) (.k (.v (.c .ff)))), .s (.mv 4 (.t 11))]) (.ret))⟩
def c_impl_judged : Fun := ⟨24, [], fun ts K => as2 ts fun t0 t1 => arG pStateT t0 fun s => arC (pL .pick) t1 fun ps => chk (LState s 2147483647) (K (tB (stateOk s && decide (ps.length ≤ 600))) [])⟩
theorem run_impl_judged (s : State) (ps : List (FT.Ty .pick)) (hpre : LState s 2147483647) : runK [c_impl_StateOk] (0) [] pf_impl_judged [tG (s.tc false []), tL false .pick ps] fun r o => r = tB (stateOk s && decide (ps.length ≤ 600)) ∧ o = [] := by
  conv => whnf
  repeat' (first | (refine sel_i (fun h => ?_) (fun h => ?_) <;> conv => whnf) | (refine chk_c ?_ ?_ <;> conv => whnf) | (refine And.intro ?_ rfl) | (refine And.intro ?_ ?_ <;> conv => whnf))
  all_goals (try simp only [etaKey, etaWord, etaMemory, etaState, lenLe600] at *)
  all_goals first
    | (refine ⟨?_⟩; assumption)
    | (simp only [*, Bool.and_true, Bool.true_and, Bool.and_false, Bool.false_and, Bool.or_true, Bool.true_or, Bool.or_false, Bool.false_or, Bool.not_true, Bool.not_false]; done)
    | trace_state
theorem ok_impl_judged : FunOk Tryz.prog c_impl_judged := funOk (E := [c_impl_StateOk]) (envOk_cons ok_impl_StateOk (envOk_nil)) mixd Tryz.func24 (pf := pf_impl_judged) (by kernel_rfl) fun ts K h => by
  obtain ⟨t0, t1, e0, h⟩ := as2_out h
  subst e0
  obtain ⟨s, e1, hq⟩ := arG_out rd_state h
  clear h
  subst e1
  have h := hq
  clear hq
  obtain ⟨ps, e1, hq⟩ := arC_out (rd_l .pick) h
  clear h
  subst e1
  have h := hq
  clear hq
  obtain ⟨hpre, h⟩ := chk_o h
  exact ⟨_, _, h, Nat.le_of_ble_eq_true (show Nat.ble 2 Tryz.f24.ntmps = true by kernel_rfl), _, run_impl_judged s ps hpre⟩

def pf_impl_Cost_count : PF := ⟨[], .seq (.reg [.s (.box 5 (.t 1)), .s (.box 6 (.t 2)), .s (.box 7 (.t 3))]) (.seq (.reg [.s (.fa 8 (.t 5) 0), .s (.load 9 false 1 (.t 8))]) (.blk 0 (.seq (.reg [.s (.bin 11 .eql (.t 9) (.k (.v (.c (.int .i64 1))))), .s (.mv 10 (.t 11))]) (.cond (.t 10) (.reg [.s (.mv 12 (.t 0)), .s (.nchk 13 (.t 12)), .s (.fa 14 (.t 13) 0), .s (.load 15 false 1 (.t 14)), .s (.bin 16 .add (.t 15) (.k (.v (.c (.int .i64 1))))), .s (.nchk 17 (.t 12)), .s (.fa 18 (.t 17) 0), .s (.store 1 (.t 18) (.t 16))]) (.seq (.reg [.s (.bin 20 .eql (.t 9) (.k (.v (.c (.int .i64 2))))), .s (.mv 19 (.t 20))]) (.cond (.t 19) (.seq (.reg [.s (.mv 21 (.t 0)), .s (.nchk 22 (.t 21)), .s (.fa 23 (.t 22) 1), .s (.load 24 false 1 (.t 23)), .s (.bin 25 .add (.t 24) (.k (.v (.c (.int .i64 1))))), .s (.nchk 26 (.t 21)), .s (.fa 27 (.t 26) 1), .s (.store 1 (.t 27) (.t 25))]) (.rgd [] [.s (.mv 28 (.t 0)), .s (.nchk 29 (.t 28)), .s (.fa 30 (.t 29) 3), .s (.load 31 false 1 (.t 30)), .s (.fa 32 (.t 6) 10), .s (.load 33 false 1 (.t 32)), .s (.len 34 false (.t 33)), .s (.fa 35 (.t 7) 10), .s (.load 36 false 1 (.t 35)), .s (.len 37 false (.t 36)), .s (.bin 38 .sub (.t 34) (.t 37)), .s (.bin 39 .add (.t 31) (.t 38)), .s (.nchk 40 (.t 28)), .s (.fa 41 (.t 40) 3), .s (.store 1 (.t 41) (.t 39))] (.tk 0 (.tk 1 (.tk 2 (.tk 3 (.tk 4 (.tk 5 (.tk 6 (.tk 7 (.tk 8 (.tk 9 (.tk 10 (.tk 11 (.tk 12 (.tk 13 (.one 14 true (.done none)))))))))))))))))) (.seq (.reg [.s (.bin 43 .eql (.t 9) (.k (.v (.c (.int .i64 3))))), .s (.mv 42 (.t 43))]) (.cond (.t 42) (.seq (.rgd [] [.s (.mv 44 (.t 0)), .s (.nchk 45 (.t 44)), .s (.fa 46 (.t 45) 3), .s (.load 47 false 1 (.t 46)), .s (.fa 48 (.t 6) 10), .s (.load 49 false 1 (.t 48)), .s (.len 50 false (.t 49)), .s (.fa 51 (.t 7) 10), .s (.load 52 false 1 (.t 51)), .s (.len 53 false (.t 52)), .s (.bin 54 .sub (.t 50) (.t 53)), .s (.bin 55 .add (.t 47) (.t 54)), .s (.nchk 56 (.t 44)), .s (.fa 57 (.t 56) 3), .s (.store 1 (.t 57) (.t 55))] (.tk 0 (.tk 1 (.tk 2 (.tk 3 (.tk 4 (.tk 5 (.tk 6 (.tk 7 (.tk 8 (.tk 9 (.tk 10 (.tk 11 (.tk 12 (.tk 13 (.one 14 true (.done none))))))))))))))))) (.seq (.reg [.s (.fa 58 (.t 7) 0), .s (.fa 59 (.t 58) 9), .s (.load 60 false 1 (.t 59)), .s (.bin 61 .eql (.t 60) (.k (.v (.c (.int .i64 0)))))]) (.cond (.t 61) (.seq (.reg [.s (.mv 62 (.t 0)), .s (.nchk 63 (.t 62)), .s (.fa 64 (.t 63) 2), .s (.load 65 false 1 (.t 64)), .s (.bin 66 .add (.t 65) (.k (.v (.c (.int .i64 1))))), .s (.nchk 67 (.t 62)), .s (.fa 68 (.t 67) 2), .s (.store 1 (.t 68) (.t 66))]) (.reg [.s (.mv 69 (.t 0)), .s (.nchk 70 (.t 69)), .s (.fa 71 (.t 70) 3), .s (.load 72 false 1 (.t 71)), .s (.bin 73 .sub (.t 72) (.k (.v (.c (.int .i64 1))))), .s (.nchk 74 (.t 69)), .s (.fa 75 (.t 74) 3), .s (.store 1 (.t 75) (.t 73))])) (.skip)))) (.seq (.reg [.s (.bin 77 .eql (.t 9) (.k (.v (.c (.int .i64 4))))), .s (.mv 76 (.t 77))]) (.cond (.t 76) (.reg [.s (.mv 78 (.t 0)), .s (.nchk 79 (.t 78)), .s (.fa 80 (.t 79) 4), .s (.load 81 false 1 (.t 80)), .s (.bin 82 .add (.t 81) (.k (.v (.c (.int .i64 1))))), .s (.nchk 83 (.t 78)), .s (.fa 84 (.t 83) 4), .s (.store 1 (.t 84) (.t 82))]) (.skip)))))))))))⟩
def c_impl_Cost_count : Fun := ⟨27, [true, false, false, false], fun ts K => as4 ts fun t0 t1 t2 t3 => arQ pCostT t0 fun k => arG pPickT t1 fun p => arG pCoreT t2 fun a => arG pCoreT t3 fun b => chk (BndC k 1000000 ∧ a.rob.length ≤ 7 ∧ b.rob.length ≤ 7 ∧ (p.kind = 1 ∨ p.kind = 2 ∨ p.kind = 3 ∨ p.kind = 4)) (K (.tup []) ([.v (.ptr true 0 ((addC k (oneC p a b)).tc []))]))⟩
theorem run_impl_Cost_count (k : Cost) (p : Pick) (a : Core) (b : Core) (hpre : BndC k 1000000 ∧ a.rob.length ≤ 7 ∧ b.rob.length ≤ 7 ∧ (p.kind = 1 ∨ p.kind = 2 ∨ p.kind = 3 ∨ p.kind = 4)) : runK [] (0) [true, false, false, false] pf_impl_Cost_count [.v (.ptr true 0 (k.tc [])), tG (p.tc []), tG (a.tc false []), tG (b.tc false [])] fun r o => r = .tup [] ∧ o = [.v (.ptr true 0 ((addC k (oneC p a b)).tc []))] := by
  obtain ⟨⟨b1, b2, b3, b4, b5⟩, ha, hb, hk⟩ := hpre
  have w1 : IntKind.i64.wrap (k.pulled + 1) = k.pulled + 1 := wrap_id (by omega) (by omega)
  have w2 : IntKind.i64.wrap (k.done + 1) = k.done + 1 := wrap_id (by omega) (by omega)
  have w3 : IntKind.i64.wrap (k.kept + 1) = k.kept + 1 := wrap_id (by omega) (by omega)
  have w4 : IntKind.i64.wrap (k.swept + 1) = k.swept + 1 := wrap_id (by omega) (by omega)
  have w5 : IntKind.i64.wrap ((a.rob.length : Int) - b.rob.length) = (a.rob.length : Int) - b.rob.length := wrap_id (by omega) (by omega)
  have w6 : IntKind.i64.wrap (k.back + ((a.rob.length : Int) - b.rob.length)) = k.back + ((a.rob.length : Int) - b.rob.length) := wrap_id (by omega) (by omega)
  have w7 : IntKind.i64.wrap (k.back + ((a.rob.length : Int) - b.rob.length) - 1) = k.back + ((a.rob.length : Int) - b.rob.length - 1) := by rw [wrap_id (by omega) (by omega)]; omega
  conv => whnf
  repeat' (first | (refine sel_i (fun h => ?_) (fun h => ?_) <;> conv => whnf) | (refine chk_c ?_ ?_ <;> conv => whnf) | (refine And.intro ?_ rfl) | (refine And.intro ?_ ?_ <;> conv => whnf))
  all_goals (simp only [w1, w2, w3, w4, w5, w6, w7, beq_iff_eq, beq_eq_false_iff_ne, ne_eq] at *)
  all_goals first
    | trivial
    | (exfalso; omega)
    | (unfold addC oneC; simp only [*, ne_eq, not_true_eq_false, not_false_eq_true, if_true, if_false, Int.add_zero, Int.reduceEq, Cost.tc]; done)
    | trace_state
theorem ok_impl_Cost_count : FunOk Tryz.prog c_impl_Cost_count := funOk (E := []) (envOk_nil) mixd Tryz.func27 (pf := pf_impl_Cost_count) (by kernel_rfl) fun ts K h => by
  obtain ⟨t0, t1, t2, t3, e0, h⟩ := as4_out h
  subst e0
  obtain ⟨k, e1, hq⟩ := arQ_out rd_cost h
  clear h
  subst e1
  have h := hq
  clear hq
  obtain ⟨p, e1, hq⟩ := arG_out rd_pick h
  clear h
  subst e1
  have h := hq
  clear hq
  obtain ⟨a, e1, hq⟩ := arG_out rd_core h
  clear h
  subst e1
  have h := hq
  clear hq
  obtain ⟨b, e1, hq⟩ := arG_out rd_core h
  clear h
  subst e1
  have h := hq
  clear hq
  obtain ⟨hpre, h⟩ := chk_o h
  exact ⟨_, _, h, Nat.le_of_ble_eq_true (show Nat.ble 4 Tryz.f27.ntmps = true by kernel_rfl), _, run_impl_Cost_count k p a b hpre⟩

def pf_spec_l28One : PF := ⟨[.c 6 true 5], .seq (.reg [.s (.box 3 (.t 0)), .s (.box 4 (.t 1)), .s (.box 5 (.t 2)), .s (.alloc 6 [.int .i64 0, .int .i64 0, .int .i64 0, .int .i64 0, .int .i64 0])]) (.seq (.reg [.s (.fa 8 (.t 4) 10), .s (.load 9 false 1 (.t 8)), .s (.len 10 false (.t 9)), .s (.fa 11 (.t 5) 10), .s (.load 12 false 1 (.t 11)), .s (.len 13 false (.t 12)), .s (.bin 14 .sub (.t 10) (.t 13)), .s (.mv 7 (.t 14))]) (.seq (.seq (.reg [.s (.fa 15 (.t 3) 0), .s (.load 16 false 1 (.t 15))]) (.blk 0 (.seq (.reg [.s (.bin 18 .eql (.t 16) (.k (.v (.c (.int .i64 1))))), .s (.mv 17 (.t 18))]) (.cond (.t 17) (.seq (.reg [.s (.build 19 [.int .i64 0, .int .i64 0, .int .i64 0, .int .i64 0, .int .i64 0] [(0, 1, (.k (.v (.c (.int .i64 1)))))]), .s (.store 5 (.t 6) (.t 19))]) (.ret)) (.seq (.reg [.s (.bin 21 .eql (.t 16) (.k (.v (.c (.int .i64 2))))), .s (.mv 20 (.t 21))]) (.cond (.t 20) (.seq (.reg [.s (.mv 22 (.t 7)), .s (.build 23 [.int .i64 0, .int .i64 0, .int .i64 0, .int .i64 0, .int .i64 0] [(1, 1, (.k (.v (.c (.int .i64 1))))), (3, 1, (.t 22))]), .s (.store 5 (.t 6) (.t 23))]) (.ret)) (.seq (.reg [.s (.bin 25 .eql (.t 16) (.k (.v (.c (.int .i64 3))))), .s (.mv 24 (.t 25))]) (.cond (.t 24) (.seq (.seq (.reg [.s (.fa 26 (.t 5) 0), .s (.fa 27 (.t 26) 9), .s (.load 28 false 1 (.t 27)), .s (.bin 29 .neq (.t 28) (.k (.v (.c (.int .i64 0)))))]) (.cond (.t 29) (.seq (.reg [.s (.mv 30 (.t 7)), .s (.build 31 [.int .i64 0, .int .i64 0, .int .i64 0, .int .i64 0, .int .i64 0] [(3, 1, (.t 30))]), .s (.store 5 (.t 6) (.t 31))]) (.ret)) (.skip))) (.seq (.reg [.s (.mv 32 (.t 7)), .s (.bin 33 .sub (.t 32) (.k (.v (.c (.int .i64 1))))), .s (.build 34 [.int .i64 0, .int .i64 0, .int .i64 0, .int .i64 0, .int .i64 0] [(2, 1, (.k (.v (.c (.int .i64 1))))), (3, 1, (.t 33))]), .s (.store 5 (.t 6) (.t 34))]) (.ret))) (.skip))))))))) (.seq (.reg [.s (.build 35 [.int .i64 0, .int .i64 0, .int .i64 0, .int .i64 0, .int .i64 0] [(4, 1, (.k (.v (.c (.int .i64 1)))))]), .s (.store 5 (.t 6) (.t 35))]) (.ret))))⟩
def c_spec_l28One : Fun := ⟨31, [], fun ts K => as3 ts fun t0 t1 t2 => arG pPickT t0 fun p => arG pCoreT t1 fun a => arG pCoreT t2 fun b => chk (a.rob.length ≤ 7 ∧ b.rob.length ≤ 7) (K (tG ((oneC p a b).tc [])) [])⟩
theorem run_spec_l28One (p : Pick) (a : Core) (b : Core) (hpre : a.rob.length ≤ 7 ∧ b.rob.length ≤ 7) : runK [] (0) [] pf_spec_l28One [tG (p.tc []), tG (a.tc false []), tG (b.tc false [])] fun r o => r = tG ((oneC p a b).tc []) ∧ o = [] := by
  obtain ⟨ha, hb⟩ := hpre
  have w5 : IntKind.i64.wrap ((a.rob.length : Int) - b.rob.length) = (a.rob.length : Int) - b.rob.length := wrap_id (by omega) (by omega)
  have w7 : IntKind.i64.wrap ((a.rob.length : Int) - b.rob.length - 1) = (a.rob.length : Int) - b.rob.length - 1 := wrap_id (by omega) (by omega)
  conv => whnf
  repeat' (first | (refine sel_i (fun h => ?_) (fun h => ?_) <;> conv => whnf) | (refine chk_c ?_ ?_ <;> conv => whnf) | (refine And.intro ?_ rfl) | (refine And.intro ?_ ?_ <;> conv => whnf))
  all_goals (simp only [w5, w7, beq_iff_eq, beq_eq_false_iff_ne, bne_iff_ne, bne_eq_false_iff_eq, ne_eq] at *)
  all_goals first
    | (unfold oneC; simp only [*, ne_eq, not_true_eq_false, not_false_eq_true, if_true, if_false, Int.reduceEq, Cost.tc]; done)
    | trace_state
theorem ok_spec_l28One : FunOk Tryz.prog c_spec_l28One := funOk (E := []) (envOk_nil) mixd Tryz.func31 (pf := pf_spec_l28One) (by kernel_rfl) fun ts K h => by
  obtain ⟨t0, t1, t2, e0, h⟩ := as3_out h
  subst e0
  obtain ⟨p, e1, hq⟩ := arG_out rd_pick h
  clear h
  subst e1
  have h := hq
  clear hq
  obtain ⟨a, e1, hq⟩ := arG_out rd_core h
  clear h
  subst e1
  have h := hq
  clear hq
  obtain ⟨b, e1, hq⟩ := arG_out rd_core h
  clear h
  subst e1
  have h := hq
  clear hq
  obtain ⟨hpre, h⟩ := chk_o h
  exact ⟨_, _, h, Nat.le_of_ble_eq_true (show Nat.ble 3 Tryz.f31.ntmps = true by kernel_rfl), _, run_spec_l28One p a b hpre⟩

theorem costOf_no {l : List Inst} {s : State} {ps : List Pick} (h : stateOk s = false ∨ 600 < ps.length) : costOf l s ps = (⟨0, 0, 0, 0, 0⟩, false) := by
  unfold costOf
  rw [if_neg]
  rintro ⟨h1, h2⟩
  rcases h with h | h
  · rw [h] at h1; cases h1
  · omega
theorem costOf_yes {l : List Inst} {s : State} {ps : List Pick} (h : stateOk s = true) (h2 : ps.length ≤ 600) : costOf l s ps = (costGo l ps (coreNew s) ⟨0, 0, 0, 0, 0⟩, true) := if_pos ⟨h, h2⟩
theorem costOf_j {l : List Inst} {s : State} {ps : List Pick} (h : (stateOk s && decide (ps.length ≤ 600)) = false) : costOf l s ps = (⟨0, 0, 0, 0, 0⟩, false) := by
  apply costOf_no
  cases h1 : stateOk s with
  | false => exact .inl rfl
  | true => rw [h1, Bool.true_and, decide_eq_false_iff_not] at h; right; omega
theorem costGo_drop {l : List Inst} {ps : List Pick} {i : Nat} {c : Core} {k : Cost} (h : i < ps.length) : costGo l (ps.drop i) c k = costGo l (ps.drop (i + 1)) (pickC l c (ps.getD i (FT.zero .pick))).1 (costStep l c (ps.getD i (FT.zero .pick)) k) := by
  rw [List.drop_eq_getElem_cons h, List.getD_eq_getElem?_getD, List.getElem?_eq_getElem h]; rfl
theorem bndC_mono {k : Cost} {n m : Int} (h : BndC k n) (hn : n ≤ m) : BndC k m := by unfold BndC at *; omega
theorem costAdd_eq {k j : Cost} (h : BndC k 1000000) (h2 : BndC j 8) : costAdd k j = addC k j := by
  unfold BndC at h h2
  unfold costAdd addC
  rw [wrap_id (n := k.pulled + j.pulled) (by omega) (by omega), wrap_id (n := k.done + j.done) (by omega) (by omega), wrap_id (n := k.kept + j.kept) (by omega) (by omega), wrap_id (n := k.back + j.back) (by omega) (by omega), wrap_id (n := k.swept + j.swept) (by omega) (by omega)]
theorem costStep_t {l : List Inst} {c : Core} {p : Pick} {k : Cost} (h : (pickC l c p).2 = true) : costStep l c p k = addC k (oneC p c (pickC l c p).1) := if_pos h
theorem costStep_f {l : List Inst} {c : Core} {p : Pick} {k : Cost} (h : (pickC l c p).2 = false) : costStep l c p k = k := if_neg (by rw [h]; decide)

def lb_impl_CostOf_0 : PC := .seq (.reg [.s (.bin 25 .lss (.t 24) (.t 23))]) (.seq (.cond (.t 25) (.skip) (.exit 0)) (.seq (.blk 1 (.seq (.reg [.s (.ia 26 .pick (.t 22) (.t 24)), .s (.load 27 true 2 (.t 26)), .s (.alloc 11 [.int .i64 0, .int .i64 0]), .s (.store 2 (.t 11) (.t 27))]) (.seq (.reg [.s (.mv 29 (.t 0)), .s (.load 30 true 19 (.t 8)), .s (.load 31 true 2 (.t 11)), .s (.call (some 32) 26 [(.t 29), (.t 30), (.t 31)]), .s (.mv 28 (.t 32)), .s (.ext 33 (.t 28) 0), .s (.ext 34 (.t 28) 1), .s (.alloc 12 [.nils .word, .int .i64 0, .ff, .int .i64 0, .int .i64 0, .int .i64 0, .int .i64 0, .nils .word, .nils .bool, .int .i64 0, .nils .entry, .int .i64 0, .ff, .int .i64 0, .int .i64 0, .int .i64 0, .int .i64 0, .ff, .nils (.int .i64)]), .s (.store 19 (.t 12) (.t 33)), .s (.mv 13 (.t 34))]) (.seq (.seq (.reg [.s (.mv 35 (.t 13))]) (.cond (.t 35) (.reg [.s (.load 36 true 2 (.t 11)), .s (.load 37 true 19 (.t 8)), .s (.load 38 true 19 (.t 12)), .s (.call (some 39) 27 [(.t 9), (.t 36), (.t 37), (.t 38)])]) (.skip))) (.reg [.s (.load 40 true 19 (.t 12)), .s (.store 19 (.t 8) (.t 40))]))))) (.reg [.s (.bin 41 .add (.t 24) (.k (.v (.c (.int .i64 1))))), .s (.mv 24 (.t 41))])))
def pf_impl_CostOf : PF := ⟨[.c 6 true 5, .t 7], .seq (.reg [.s (.box 4 (.t 1)), .s (.alloc 6 [.int .i64 0, .int .i64 0, .int .i64 0, .int .i64 0, .int .i64 0]), .s (.mv 7 (.k (.v (.c .ff))))]) (.seq (.seq (.reg [.s (.load 14 true 10 (.t 4)), .s (.mv 15 (.t 2)), .s (.call (some 16) 24 [(.t 14), (.t 15)]), .s (.bnot 17 (.t 16))]) (.cond (.t 17) (.seq (.reg [.s (.build 18 [.int .i64 0, .int .i64 0, .int .i64 0, .int .i64 0, .int .i64 0] []), .s (.store 5 (.t 6) (.t 18)), .s (.mv 7 (.k (.v (.c .ff))))]) (.ret)) (.skip))) (.seq (.reg [.s (.load 19 true 10 (.t 4)), .s (.call (some 20) 25 [(.t 19)]), .s (.alloc 8 [.nils .word, .int .i64 0, .ff, .int .i64 0, .int .i64 0, .int .i64 0, .int .i64 0, .nils .word, .nils .bool, .int .i64 0, .nils .entry, .int .i64 0, .ff, .int .i64 0, .int .i64 0, .int .i64 0, .int .i64 0, .ff, .nils (.int .i64)]), .s (.store 19 (.t 8) (.t 20))]) (.seq (.reg [.s (.build 21 [.int .i64 0, .int .i64 0, .int .i64 0, .int .i64 0, .int .i64 0] []), .s (.alloc 9 [.int .i64 0, .int .i64 0, .int .i64 0, .int .i64 0, .int .i64 0]), .s (.store 5 (.t 9) (.t 21))]) (.seq (.seq (.reg [.s (.mv 22 (.t 2)), .s (.len 23 false (.t 22)), .s (.mv 24 (.k (.v (.c (.int .i64 0)))))]) (.blk 0 (.loop [0, 6, 8, 9, 22, 23, 24] lb_impl_CostOf_0))) (.seq (.reg [.s (.load 42 true 5 (.t 9)), .s (.store 5 (.t 6) (.t 42)), .s (.mv 7 (.k (.v (.c .tt))))]) (.ret))))))⟩
def c_impl_CostOf : Fun := ⟨7, [], fun ts K => as3 ts fun t0 t1 t2 => arC (pL .inst) t0 fun l => arG pStateT t1 fun s => arC (pL .pick) t2 fun ps => chk (l.length ≤ 2147483647 ∧ LState s 2147483647 ∧ ps.length ≤ 2147483647) (K (costT (costOf l s ps)) [])⟩
theorem run_impl_CostOf (l : List (FT.Ty .inst)) (s : State) (ps : List (FT.Ty .pick)) (hpre : l.length ≤ 2147483647 ∧ LState s 2147483647 ∧ ps.length ≤ 2147483647) : runK [c_impl_judged, c_impl_CoreNew, c_impl_CorePick, c_impl_Cost_count] (ps.length + 1) [] pf_impl_CostOf [tL false .inst l, tG (s.tc false []), tL false .pick ps] fun r o => r = costT (costOf l s ps) ∧ o = [] := by
  obtain ⟨l0, l1, l2⟩ := hpre
  have hcl := coreNew_l l1
  conv => whnf
  repeat' (first | (refine sel_i (fun h => ?_) (fun h => ?_) <;> conv => whnf) | (refine chk_c ?_ ?_ <;> conv => whnf) | (refine And.intro ?_ rfl) | (refine And.intro ?_ ?_ <;> conv => whnf))
  all_goals (try simp only [etaKey, etaWord, etaMemory, etaState, Bool.not_eq_true', Bool.not_eq_false', decide_eq_true_eq, decide_eq_false_iff_not, gt_iff_lt] at *)
  all_goals first
    | (refine ⟨?_⟩; assumption)
    | (rw [costOf_j (by assumption)]; rfl)
    | skip
  have hj := Bool.and_eq_true_iff.1 (show (stateOk s && decide (ps.length ≤ 600)) = true by assumption)
  have hn := of_decide_eq_true hj.2
  have hyes := costOf_yes (l := l) (s := s) (ps := ps) hj.1 hn
  rw [hyes]
  generalize coreNew s = c0 at *
  refine loop (α := Nat × Core × Cost) (fun ⟨i, c, k⟩ => ⟨[(0, .v (.c (.sl false .inst 0))), (6, .v (.c (.ptr 1 0))), (8, .v (.c (.ptr 2 0))), (9, .v (.c (.ptr 8 0))), (22, .v (.c (.sl false .pick 9))), (23, .v (.c (.int .i64 (ps.length : Int)))), (24, .v (.c (.int .i64 (i : Int))))],
        [(9, some (.flat false .pick none ps)), (8, some (.box true [.int .i64 k.pulled, .int .i64 k.done, .int .i64 k.kept, .int .i64 k.back, .int .i64 k.swept])), (7, some (.flat true (.int .i64) none c.guesses)), (6, some (.flat true .entry none c.rob)), (5, some (.flat true .bool none c.s.mem.gone)), (4, some (.flat true .word none c.s.mem.words)), (3, some (.flat true .word none c.s.regs)), (2, some (.box true [.sl false .word 3, .int .i64 c.s.pc.n, .bool c.s.pc.is, .int .i64 c.s.pc.key.base, .int .i64 c.s.pc.key.top, .int .i64 c.s.pc.key.perms, .int .i64 c.s.pc.key.sealed, .sl false .word 4, .sl false .bool 5, .int .i64 c.s.trap, .sl false .entry 6, .int .i64 c.next.n, .bool c.next.is, .int .i64 c.next.key.base, .int .i64 c.next.key.top, .int .i64 c.next.key.perms, .int .i64 c.next.key.sealed, .bool c.stop, .sl false (.int .i64) 7])), (1, some (.box true [.int .i64 0, .int .i64 0, .int .i64 0, .int .i64 0, .int .i64 0])), (0, some (.flat false .inst none l))], nums.tail.tail.tail.tail.tail.tail.tail.tail.tail.tail, [], false, []⟩)
    (fun q => q.1 ≤ ps.length ∧ LCore q.2.1 2147483647 ∧ BndC q.2.2 (8 * q.1) ∧ costGo l ps c0 ⟨0, 0, 0, 0, 0⟩ = costGo l (ps.drop q.1) q.2.1 q.2.2) (fun q => ps.length - q.1) (fun q R hI hR => ?_) (0, c0, ⟨0, 0, 0, 0, 0⟩) _ ⟨by simp, hcl, by unfold BndC; dsimp only; omega, rfl⟩ (by dsimp only; omega)
  obtain ⟨i, c, k⟩ := q
  obtain ⟨hi, hL, hB, hG⟩ := hI
  dsimp only at hi hL hB hG hR ⊢
  have w3 : IntKind.i64.wrap ((i : Int) + 1) = ((i + 1 : Nat) : Int) := by rw [wrap_id (by omega) (by omega)]; rfl
  conv => whnf
  repeat' (first | (refine sel_i (fun h => ?_) (fun h => ?_) <;> conv => whnf) | (refine chk_c ?_ ?_ <;> conv => whnf) | (refine And.intro ?_ rfl) | (refine And.intro ?_ ?_ <;> conv => whnf))
  all_goals (try simp only [etaKey, etaWord, etaInst, etaEff, etaEntry, etaMemory, etaState, etaCore, etaPick, etaCost, w3, Int.toNat_natCast, decide_eq_true_eq, decide_eq_false_iff_not] at *)
  all_goals (have hd := fun h => costGo_drop (l := l) (ps := ps) (i := i) (c := c) (k := k) h)
  all_goals generalize ps.getD i (FT.zero .pick) = p at *
  all_goals first
    | (refine ⟨?_⟩; first | omega | exact ⟨l0, hL⟩ | (have hy := pickC_yes (l := l) (c := c) (p := p) (by assumption); exact ⟨bndC_mono hB (by omega), (fit_ok hy.1).2.1, (pickC_fit hy.1).2.1, hy.2⟩) | (have hy := pickC_yes (l := l) (c := c) (p := p) (by assumption); exact ⟨(fit_ok hy.1).2.1, (pickC_fit hy.1).2.1⟩))
    | (rw [hG, List.drop_eq_nil_of_le (by omega)]; rfl)
    | (rw [hd (by omega)] at hG
       have hok : (pickC l c p).2 = true := by assumption
       have hy := pickC_yes hok
       have hb1 := oneC_bnd (p := p) (fit_ok hy.1).2.1 (pickC_fit (l := l) (p := p) hy.1).2.1
       (try rw [costAdd_eq (bndC_mono hB (by omega)) hb1])
       rw [costStep_t hok] at hG
       exact hR (i + 1, (pickC l c p).1, addC k (oneC p c (pickC l c p).1)) ⟨by dsimp only; omega, pickC_l, bndC_mono (addC_bnd hB hb1) (by dsimp only; omega), hG⟩ (by dsimp only; omega))
    | (rw [hd (by omega)] at hG
       have hok : (pickC l c p).2 = false := by assumption
       rw [costStep_f hok] at hG
       first
         | exact hR (i + 1, (pickC l c p).1, k) ⟨by dsimp only; omega, pickC_l, bndC_mono hB (by dsimp only; omega), hG⟩ (by dsimp only; omega)
         | (rw [costGo_skip _ hok] at hG; exact hR (i + 1, c, k) ⟨by dsimp only; omega, hL, bndC_mono hB (by dsimp only; omega), hG⟩ (by dsimp only; omega)))
    | trace_state
theorem ok_impl_CostOf : FunOk Tryz.prog c_impl_CostOf := funOk (E := [c_impl_judged, c_impl_CoreNew, c_impl_CorePick, c_impl_Cost_count]) (envOk_cons ok_impl_judged (envOk_cons ok_impl_CoreNew (envOk_cons ok_impl_CorePick (envOk_cons ok_impl_Cost_count (envOk_nil))))) mixd Tryz.func7 (pf := pf_impl_CostOf) (by kernel_rfl) fun ts K h => by
  obtain ⟨t0, t1, t2, e0, h⟩ := as3_out h
  subst e0
  obtain ⟨l, e1, hq⟩ := arC_out (rd_l .inst) h
  clear h
  subst e1
  have h := hq
  clear hq
  obtain ⟨s, e1, hq⟩ := arG_out rd_state h
  clear h
  subst e1
  have h := hq
  clear hq
  obtain ⟨ps, e1, hq⟩ := arC_out (rd_l .pick) h
  clear h
  subst e1
  have h := hq
  clear hq
  obtain ⟨hpre, h⟩ := chk_o h
  exact ⟨_, _, h, Nat.le_of_ble_eq_true (show Nat.ble 3 Tryz.f7.ntmps = true by kernel_rfl), _, run_impl_CostOf l s ps hpre⟩

def lb_spec_CostOf_0 : PC := .seq (.seq (.reg [.s (.mv 25 (.t 10)), .s (.mv 26 (.t 2)), .s (.len 27 false (.t 26)), .s (.bin 28 .lss (.t 25) (.t 27))]) (.cond (.t 28) (.skip) (.exit 0))) (.seq (.blk 1 (.seq (.rgd [] [.s (.mv 32 (.t 0)), .s (.load 33 true 19 (.t 8)), .s (.mv 34 (.t 2)), .s (.mv 35 (.t 10)), .s (.ia 36 .pick (.t 34) (.t 35)), .s (.load 37 true 2 (.t 36)), .s (.call (some 38) 30 [(.t 32), (.t 33), (.t 37)]), .s (.mv 31 (.t 38)), .s (.ext 39 (.t 31) 0), .s (.ext 40 (.t 31) 1), .s (.alloc 11 [.nils .word, .int .i64 0, .ff, .int .i64 0, .int .i64 0, .int .i64 0, .int .i64 0, .nils .word, .nils .bool, .int .i64 0, .nils .entry, .int .i64 0, .ff, .int .i64 0, .int .i64 0, .int .i64 0, .int .i64 0, .ff, .nils (.int .i64)]), .s (.store 19 (.t 11) (.t 39)), .s (.mv 12 (.t 40))] (.tk 0 (.tk 1 (.tk 2 (.tk 3 (.tk 4 (.tk 5 (.alt 6 false (.tk 7 (.tk 8 (.tk 9 (.one 10 false (.one 11 true (.tk 12 (.done (some [0, 2, 6, 8, 9, 10, 11, 12])))))))) (.alt 10 false (.one 6 true (.tk 7 (.tk 8 (.tk 9 (.one 11 true (.tk 12 (.done (some [0, 2, 6, 8, 9, 10, 11, 12])))))))) (.nil)))))))))) (.seq (.reg [.s (.mv 41 (.t 12))]) (.cond (.t 41) (.seq (.rgd [] [.s (.load 42 true 5 (.t 9)), .s (.mv 43 (.t 2)), .s (.mv 44 (.t 10)), .s (.ia 45 .pick (.t 43) (.t 44)), .s (.load 46 true 2 (.t 45)), .s (.load 47 true 19 (.t 8)), .s (.load 48 true 19 (.t 11)), .s (.call (some 49) 31 [(.t 46), (.t 47), (.t 48)]), .s (.call (some 50) 12 [(.t 42), (.t 49)]), .s (.store 5 (.t 9) (.t 50))] (.tk 0 (.tk 1 (.tk 2 (.tk 3 (.tk 4 (.tk 5 (.tk 6 (.one 7 false (.one 8 true (.one 9 true (.done none)))))))))))) (.reg [.s (.load 51 true 19 (.t 11)), .s (.store 19 (.t 8) (.t 51))])) (.skip))))) (.reg [.s (.mv 29 (.t 10)), .s (.bin 30 .add (.t 29) (.k (.v (.c (.int .i64 1))))), .s (.mv 10 (.t 30))]))
def pf_spec_CostOf : PF := ⟨[.c 6 true 5, .t 7], .seq (.reg [.s (.box 4 (.t 1)), .s (.alloc 6 [.int .i64 0, .int .i64 0, .int .i64 0, .int .i64 0, .int .i64 0]), .s (.mv 7 (.k (.v (.c .ff))))]) (.seq (.seq (.reg [.s (.load 13 true 10 (.t 4)), .s (.call (some 14) 28 [(.t 13)]), .s (.bnot 15 (.t 14)), .s (.mv 16 (.t 15)), .g 16 false (some 17) (.mv 17 (.t 2)), .g 16 false (some 18) (.len 18 false (.t 17)), .g 16 false (some 19) (.bin 19 .gtr (.t 18) (.k (.v (.c (.int .i64 600))))), .s (.pick 20 (.t 16) (.k (.v (.c .tt))) (.t 19))]) (.cond (.t 20) (.seq (.reg [.s (.build 21 [.int .i64 0, .int .i64 0, .int .i64 0, .int .i64 0, .int .i64 0] []), .s (.store 5 (.t 6) (.t 21)), .s (.mv 7 (.k (.v (.c .ff))))]) (.ret)) (.skip))) (.seq (.reg [.s (.load 22 true 10 (.t 4)), .s (.call (some 23) 29 [(.t 22)]), .s (.alloc 8 [.nils .word, .int .i64 0, .ff, .int .i64 0, .int .i64 0, .int .i64 0, .int .i64 0, .nils .word, .nils .bool, .int .i64 0, .nils .entry, .int .i64 0, .ff, .int .i64 0, .int .i64 0, .int .i64 0, .int .i64 0, .ff, .nils (.int .i64)]), .s (.store 19 (.t 8) (.t 23))]) (.seq (.reg [.s (.build 24 [.int .i64 0, .int .i64 0, .int .i64 0, .int .i64 0, .int .i64 0] []), .s (.alloc 9 [.int .i64 0, .int .i64 0, .int .i64 0, .int .i64 0, .int .i64 0]), .s (.store 5 (.t 9) (.t 24))]) (.seq (.seq (.reg [.s (.mv 10 (.k (.v (.c (.int .i64 0)))))]) (.blk 0 (.loop [0, 2, 6, 8, 9, 10] lb_spec_CostOf_0))) (.seq (.reg [.s (.load 52 true 5 (.t 9)), .s (.store 5 (.t 6) (.t 52)), .s (.mv 7 (.k (.v (.c .tt))))]) (.ret))))))⟩
def c_spec_CostOf : Fun := ⟨8, [], fun ts K => as3 ts fun t0 t1 t2 => arC (pL .inst) t0 fun l => arG pStateT t1 fun s => arC (pL .pick) t2 fun ps => chk (l.length ≤ 2147483647 ∧ LState s 2147483647 ∧ ps.length ≤ 2147483647) (K (costT (costOf l s ps)) [])⟩
theorem run_spec_CostOf (l : List (FT.Ty .inst)) (s : State) (ps : List (FT.Ty .pick)) (hpre : l.length ≤ 2147483647 ∧ LState s 2147483647 ∧ ps.length ≤ 2147483647) : runK [c_spec_CostAdd, c_spec_StateOk, c_spec_CoreNew, c_spec_CorePick, c_spec_l28One] (ps.length + 1) [] pf_spec_CostOf [tL false .inst l, tG (s.tc false []), tL false .pick ps] fun r o => r = costT (costOf l s ps) ∧ o = [] := by
  obtain ⟨l0, l1, l2⟩ := hpre
  have hcl := coreNew_l l1
  conv => whnf
  repeat' (first | (refine sel_i (fun h => ?_) (fun h => ?_) <;> conv => whnf) | (refine chk_c ?_ ?_ <;> conv => whnf) | (refine And.intro ?_ rfl) | (refine And.intro ?_ ?_ <;> conv => whnf))
  all_goals (try simp only [etaKey, etaWord, etaMemory, etaState, Bool.not_eq_true', Bool.not_eq_false', decide_eq_true_eq, decide_eq_false_iff_not, gt_iff_lt] at *)
  all_goals first
    | (refine ⟨?_⟩; assumption)
    | (rw [costOf_no (by first | exact Or.inl (by assumption) | exact Or.inr (by omega))]; rfl)
    | skip
  have hyes := costOf_yes (l := l) (s := s) (ps := ps) (by assumption) (by omega)
  rw [hyes]
  generalize coreNew s = c0 at *
  refine loop (α := Nat × Core × Cost) (fun ⟨i, c, k⟩ => ⟨[(0, .v (.c (.sl false .inst 0))), (2, .v (.c (.sl false .pick 1))), (6, .v (.c (.ptr 2 0))), (8, .v (.c (.ptr 3 0))), (9, .v (.c (.ptr 9 0))), (10, .v (.c (.int .i64 (i : Int))))],
        [(9, some (.box true [.int .i64 k.pulled, .int .i64 k.done, .int .i64 k.kept, .int .i64 k.back, .int .i64 k.swept])), (8, some (.flat true (.int .i64) none c.guesses)), (7, some (.flat true .entry none c.rob)), (6, some (.flat true .bool none c.s.mem.gone)), (5, some (.flat true .word none c.s.mem.words)), (4, some (.flat true .word none c.s.regs)), (3, some (.box true [.sl false .word 4, .int .i64 c.s.pc.n, .bool c.s.pc.is, .int .i64 c.s.pc.key.base, .int .i64 c.s.pc.key.top, .int .i64 c.s.pc.key.perms, .int .i64 c.s.pc.key.sealed, .sl false .word 5, .sl false .bool 6, .int .i64 c.s.trap, .sl false .entry 7, .int .i64 c.next.n, .bool c.next.is, .int .i64 c.next.key.base, .int .i64 c.next.key.top, .int .i64 c.next.key.perms, .int .i64 c.next.key.sealed, .bool c.stop, .sl false (.int .i64) 8])), (2, some (.box true [.int .i64 0, .int .i64 0, .int .i64 0, .int .i64 0, .int .i64 0])), (1, some (.flat false .pick none ps)), (0, some (.flat false .inst none l))], nums.tail.tail.tail.tail.tail.tail.tail.tail.tail.tail, [], false, []⟩)
    (fun q => q.1 ≤ ps.length ∧ LCore q.2.1 2147483647 ∧ BndC q.2.2 (8 * q.1) ∧ costGo l ps c0 ⟨0, 0, 0, 0, 0⟩ = costGo l (ps.drop q.1) q.2.1 q.2.2) (fun q => ps.length - q.1) (fun q R hI hR => ?_) (0, c0, ⟨0, 0, 0, 0, 0⟩) _ ⟨by simp, hcl, by unfold BndC; dsimp only; omega, rfl⟩ (by dsimp only; omega)
  obtain ⟨i, c, k⟩ := q
  obtain ⟨hi, hL, hB, hG⟩ := hI
  dsimp only at hi hL hB hG hR ⊢
  have w3 : IntKind.i64.wrap ((i : Int) + 1) = ((i + 1 : Nat) : Int) := by rw [wrap_id (by omega) (by omega)]; rfl
  conv => whnf
  repeat' (first | (refine sel_i (fun h => ?_) (fun h => ?_) <;> conv => whnf) | (refine chk_c ?_ ?_ <;> conv => whnf) | (refine And.intro ?_ rfl) | (refine And.intro ?_ ?_ <;> conv => whnf))
  all_goals (try simp only [etaKey, etaWord, etaInst, etaEff, etaEntry, etaMemory, etaState, etaCore, etaPick, etaCost, w3, Int.toNat_natCast, decide_eq_true_eq, decide_eq_false_iff_not] at *)
  all_goals (have hd := fun h => costGo_drop (l := l) (ps := ps) (i := i) (c := c) (k := k) h)
  all_goals generalize ps.getD i (FT.zero .pick) = p at *
  all_goals first
    | (refine ⟨?_⟩; first | omega | exact ⟨l0, hL⟩ | (have hy := pickC_yes (l := l) (c := c) (p := p) (by assumption); exact ⟨bndC_mono hB (by omega), (fit_ok hy.1).2.1, (pickC_fit hy.1).2.1, hy.2⟩) | (have hy := pickC_yes (l := l) (c := c) (p := p) (by assumption); exact ⟨(fit_ok hy.1).2.1, (pickC_fit hy.1).2.1⟩))
    | (rw [hG, List.drop_eq_nil_of_le (by omega)]; rfl)
    | (rw [hd (by omega)] at hG
       have hok : (pickC l c p).2 = true := by assumption
       have hy := pickC_yes hok
       have hb1 := oneC_bnd (p := p) (fit_ok hy.1).2.1 (pickC_fit (l := l) (p := p) hy.1).2.1
       (try rw [costAdd_eq (bndC_mono hB (by omega)) hb1])
       rw [costStep_t hok] at hG
       exact hR (i + 1, (pickC l c p).1, addC k (oneC p c (pickC l c p).1)) ⟨by dsimp only; omega, pickC_l, bndC_mono (addC_bnd hB hb1) (by dsimp only; omega), hG⟩ (by dsimp only; omega))
    | (rw [hd (by omega)] at hG
       have hok : (pickC l c p).2 = false := by assumption
       rw [costStep_f hok] at hG
       first
         | exact hR (i + 1, (pickC l c p).1, k) ⟨by dsimp only; omega, pickC_l, bndC_mono hB (by dsimp only; omega), hG⟩ (by dsimp only; omega)
         | (rw [costGo_skip _ hok] at hG; exact hR (i + 1, c, k) ⟨by dsimp only; omega, hL, bndC_mono hB (by dsimp only; omega), hG⟩ (by dsimp only; omega)))
    | trace_state
theorem ok_spec_CostOf : FunOk Tryz.prog c_spec_CostOf := funOk (E := [c_spec_CostAdd, c_spec_StateOk, c_spec_CoreNew, c_spec_CorePick, c_spec_l28One]) (envOk_cons ok_spec_CostAdd (envOk_cons ok_spec_StateOk (envOk_cons ok_spec_CoreNew (envOk_cons ok_spec_CorePick (envOk_cons ok_spec_l28One (envOk_nil)))))) mixd Tryz.func8 (pf := pf_spec_CostOf) (by kernel_rfl) fun ts K h => by
  obtain ⟨t0, t1, t2, e0, h⟩ := as3_out h
  subst e0
  obtain ⟨l, e1, hq⟩ := arC_out (rd_l .inst) h
  clear h
  subst e1
  have h := hq
  clear hq
  obtain ⟨s, e1, hq⟩ := arG_out rd_state h
  clear h
  subst e1
  have h := hq
  clear hq
  obtain ⟨ps, e1, hq⟩ := arC_out (rd_l .pick) h
  clear h
  subst e1
  have h := hq
  clear hq
  obtain ⟨hpre, h⟩ := chk_o h
  exact ⟨_, _, h, Nat.le_of_ble_eq_true (show Nat.ble 3 Tryz.f8.ntmps = true by kernel_rfl), _, run_spec_CostOf l s ps hpre⟩


theorem kPick {K : Tree → List Tree → Prop} {o : List Tree} {P : Prop} (hK : ∀ w : Pick, P → K (tG (w.tc [])) o) (a b : Int) (h : P) : K (.v (.g [.int .i64 a, .int .i64 b])) o := hK ⟨a, b⟩ h

def pf_spec_l16DrawPick : PF := ⟨[.c 4 true 2], .seq (.reg [.s (.alloc 4 [.int .i64 0, .int .i64 0])]) (.seq (.seq (.reg [.s (.mv 5 (.t 0)), .s (.call (some 6) 66 [(.t 5), (.k (.v (.c (.int .i64 10))))])]) (.blk 0 (.seq (.seq (.reg [.s (.bin 8 .eql (.t 6) (.k (.v (.c (.int .i64 0))))), .s (.mv 7 (.t 8))]) (.cond (.t 7) (.skip) (.seq (.reg [.s (.bin 9 .eql (.t 6) (.k (.v (.c (.int .i64 1))))), .s (.mv 7 (.t 9))]) (.cond (.t 7) (.skip) (.reg [.s (.bin 10 .eql (.t 6) (.k (.v (.c (.int .i64 2))))), .s (.mv 7 (.t 10))]))))) (.cond (.t 7) (.seq (.reg [.s (.build 11 [.int .i64 0, .int .i64 0] [(0, 1, (.k (.v (.c (.int .i64 1)))))]), .s (.store 2 (.t 4) (.t 11))]) (.ret)) (.seq (.seq (.reg [.s (.bin 13 .eql (.t 6) (.k (.v (.c (.int .i64 3))))), .s (.mv 12 (.t 13))]) (.cond (.t 12) (.skip) (.seq (.reg [.s (.bin 14 .eql (.t 6) (.k (.v (.c (.int .i64 4))))), .s (.mv 12 (.t 14))]) (.cond (.t 12) (.skip) (.seq (.reg [.s (.bin 15 .eql (.t 6) (.k (.v (.c (.int .i64 5))))), .s (.mv 12 (.t 15))]) (.cond (.t 12) (.skip) (.reg [.s (.bin 16 .eql (.t 6) (.k (.v (.c (.int .i64 6))))), .s (.mv 12 (.t 16))]))))))) (.cond (.t 12) (.seq (.reg [.s (.mv 17 (.t 0)), .s (.mv 18 (.t 1)), .s (.call (some 19) 194 [(.t 18), (.k (.v (.c (.int .i64 1))))]), .s (.call (some 20) 66 [(.t 17), (.t 19)]), .s (.build 21 [.int .i64 0, .int .i64 0] [(0, 1, (.k (.v (.c (.int .i64 2))))), (1, 1, (.t 20))]), .s (.store 2 (.t 4) (.t 21))]) (.ret)) (.seq (.reg [.s (.bin 23 .eql (.t 6) (.k (.v (.c (.int .i64 7))))), .s (.mv 22 (.t 23))]) (.cond (.t 22) (.seq (.reg [.s (.mv 24 (.t 0)), .s (.call (some 25) 66 [(.t 24), (.k (.v (.c (.int .i64 25))))]), .s (.build 26 [.int .i64 0, .int .i64 0] [(0, 1, (.k (.v (.c (.int .i64 4))))), (1, 1, (.t 25))]), .s (.store 2 (.t 4) (.t 26))]) (.ret)) (.skip))))))))) (.seq (.reg [.s (.build 27 [.int .i64 0, .int .i64 0] [(0, 1, (.k (.v (.c (.int .i64 3)))))]), .s (.store 2 (.t 4) (.t 27))]) (.ret)))⟩
def c_spec_l16DrawPick : Fun := ⟨129, [true, false], fun ts K => as2 ts fun t0 t1 => arQ pCurT t0 fun c => arC (pI .i64) t1 fun n => chk (CurOk c) (∀ (p : Pick) (d : Cur), (CurOk d) → K (tG (p.tc [])) ([curOut d]))⟩
theorem run_spec_l16DrawPick (c : Cur) (n : Int) (hpre : CurOk c) {K : Tree → List Tree → Prop} (hK : ∀ (p : Pick) (d : Cur), (CurOk d) → K (tG (p.tc [])) ([curOut d])) : runK [c_spec_l1Below, c_spec_l1Max] (0) [true, false] pf_spec_l16DrawPick [.v (.ptr true 0 (c.tc [])), tI .i64 n] K := by
  conv => whnf
  repeat' (first | (refine sel_i (fun h => ?_) (fun h => ?_) <;> conv => whnf) | (refine chk_c ?_ ?_ <;> conv => whnf) | (refine And.intro ?_ rfl) | (refine And.intro ?_ ?_ <;> conv => whnf) | (intro x y z d hd; (try have g1 := And.left hd); (try have g2 := And.right hd); (try have g3 := And.left (And.right hd)); (try have g4 := And.right (And.right hd)); conv => whnf) | (intro x y d hd; (try have g1 := And.left hd); (try have g2 := And.right hd); (try have g3 := And.left (And.right hd)); (try have g4 := And.right (And.right hd)); conv => whnf) | (intro x d hd; (try have g1 := And.left hd); (try have g2 := And.right hd); (try have g3 := And.left (And.right hd)); (try have g4 := And.right (And.right hd)); conv => whnf) | (intro d hd; (try have g1 := And.left hd); (try have g2 := And.right hd); (try have g3 := And.left (And.right hd)); (try have g4 := And.right (And.right hd)); conv => whnf))
  all_goals first
    | (refine ⟨?_⟩; exact hd.2)
    | (refine ⟨?_⟩; exact hpre)
    | (exact kPick (fun w hw => hK w _ hw) _ _ hd.2)
    | trace_state
theorem ok_spec_l16DrawPick : FunOk Tryz.prog c_spec_l16DrawPick := funOkR (E := [c_spec_l1Below, c_spec_l1Max]) (envOk_cons ok_spec_l1Below (envOk_cons ok_spec_l1Max (envOk_nil))) mixd Tryz.func129 (pf := pf_spec_l16DrawPick) (by kernel_rfl) fun ts K h => by
  obtain ⟨t0, t1, e0, h⟩ := as2_out h
  subst e0
  obtain ⟨c, e1, hq⟩ := arQ_out rd_cur h
  clear h
  subst e1
  have h := hq
  clear hq
  obtain ⟨n, e1, hq⟩ := arC_out (rd_int .i64) h
  clear h
  subst e1
  have h := hq
  clear hq
  obtain ⟨hpre, h⟩ := chk_o h
  exact ⟨Nat.le_of_ble_eq_true (show Nat.ble 2 Tryz.f129.ntmps = true by kernel_rfl), _, run_spec_l16DrawPick c n hpre h⟩

def c_spec_l1Long_v_In : Fun := ⟨64, [], fun ts K => as3 ts fun t0 t1 t2 => arC (pL (.int .u8)) t0 fun c => arC (pI .i64) t1 fun a => arC (pI .i64) t2 fun b => chk (c.length ≤ 1048576 ∧ 0 ≤ a ∧ a ≤ b ∧ b ≤ 1000) (∀ (x : Int), (0 ≤ x ∧ x ≤ b) → K (tN x) [])⟩
theorem run_spec_l1Long_v_In (c : List (FT.Ty (.int .u8))) (a : Int) (b : Int) (hpre : c.length ≤ 1048576 ∧ 0 ≤ a ∧ a ≤ b ∧ b ≤ 1000) {K : Tree → List Tree → Prop} (hK : ∀ (x : Int), (0 ≤ x ∧ x ≤ b) → K (tN x) []) : runK [] (0) [] pf_spec_l1Long [tL false (.int .u8) c, tI .i64 a, tI .i64 b] K := by
  obtain ⟨l0, l1, l2, l3⟩ := hpre
  have w0 : ((c.length : Int)).tdiv 4 = (c.length : Int) / 4 := Int.tdiv_eq_ediv_of_nonneg (by omega)
  have w1 : IntKind.i64.wrap ((c.length : Int) / 4) = (c.length : Int) / 4 := wrap_id (by omega) (by omega)
  have w2 : IntKind.i64.wrap (a + (c.length : Int) / 4) = a + (c.length : Int) / 4 := wrap_id (by omega) (by omega)
  conv => whnf
  repeat' (first | (refine sel_i (fun h => ?_) (fun h => ?_) <;> conv => whnf) | (refine chk_c ?_ ?_ <;> conv => whnf) | (refine And.intro ?_ rfl) | (refine And.intro ?_ ?_ <;> conv => whnf))
  all_goals (try simp only [w0, w1, w2, decide_eq_true_eq, decide_eq_false_iff_not, gt_iff_lt] at *)
  all_goals first
    | (refine ⟨?_⟩; decide)
    | exact hK _ ⟨by omega, by omega⟩
    | trace_state
theorem ok_spec_l1Long_v_In : FunOk Tryz.prog c_spec_l1Long_v_In := funOkR (E := []) (envOk_nil) mixd Tryz.func64 (pf := pf_spec_l1Long) (by kernel_rfl) fun ts K h => by
  obtain ⟨t0, t1, t2, e0, h⟩ := as3_out h
  subst e0
  obtain ⟨c, e1, hq⟩ := arC_out (rd_l (.int .u8)) h
  clear h
  subst e1
  have h := hq
  clear hq
  obtain ⟨a, e1, hq⟩ := arC_out (rd_int .i64) h
  clear h
  subst e1
  have h := hq
  clear hq
  obtain ⟨b, e1, hq⟩ := arC_out (rd_int .i64) h
  clear h
  subst e1
  have h := hq
  clear hq
  obtain ⟨hpre, h⟩ := chk_o h
  exact ⟨Nat.le_of_ble_eq_true (show Nat.ble 3 Tryz.f64.ntmps = true by kernel_rfl), _, run_spec_l1Long_v_In c a b hpre h⟩

def lb_spec_l16DrawPicks_0 : PC := .seq (.seq (.reg [.s (.mv 13 (.t 7)), .s (.mv 14 (.t 6)), .s (.bin 15 .lss (.t 13) (.t 14))]) (.cond (.t 15) (.skip) (.exit 0))) (.seq (.blk 1 (.reg [.s (.mv 18 (.t 5)), .s (.mv 19 (.t 0)), .s (.call (some 20) 129 [(.t 19), (.k (.v (.c (.int .i64 5))))]), .s (.bs 21 .pick [(.t 20)]), .s (.app 22 .pick (.t 18) (.t 21)), .s (.mv 5 (.t 22))])) (.reg [.s (.mv 16 (.t 7)), .s (.bin 17 .add (.t 16) (.k (.v (.c (.int .i64 1))))), .s (.mv 7 (.t 17))]))
def pf_spec_l16DrawPicks : PF := ⟨[.t 4], .seq (.reg [.s (.mv 4 (.k (.v (.c (.nils .pick)))))]) (.seq (.reg [.s (.bs 8 .pick []), .s (.mv 5 (.t 8))]) (.seq (.reg [.s (.mv 9 (.t 0)), .s (.mv 10 (.t 1)), .s (.bin 11 .add (.t 10) (.k (.v (.c (.int .i64 1))))), .s (.call (some 12) 66 [(.t 9), (.t 11)]), .s (.mv 6 (.t 12))]) (.seq (.seq (.reg [.s (.mv 7 (.k (.v (.c (.int .i64 0)))))]) (.blk 0 (.loop [0, 5, 6, 7] lb_spec_l16DrawPicks_0))) (.seq (.reg [.s (.mv 23 (.t 5)), .s (.mv 4 (.t 23))]) (.ret)))))⟩
def c_spec_l16DrawPicks : Fun := ⟨63, [true, false], fun ts K => as2 ts fun t0 t1 => arQ pCurT t0 fun c => arC (pI .i64) t1 fun most => chk (CurOk c ∧ 0 ≤ most ∧ most ≤ 240) (∀ (ps : List Pick) (d : Cur), (ps.length ≤ 250 ∧ CurOk d) → K (tL true .pick ps) ([curOut d]))⟩
theorem run_spec_l16DrawPicks (FU : Nat) (c : Cur) (most : Int) (hpre : CurOk c ∧ 0 ≤ most ∧ most ≤ 240) {K : Tree → List Tree → Prop} (hK : ∀ (ps : List Pick) (d : Cur), (ps.length ≤ 250 ∧ CurOk d) → K (tL true .pick ps) ([curOut d])) : runK [c_spec_l1Below, c_spec_l16DrawPick] (300 + FU) [true, false] pf_spec_l16DrawPicks [.v (.ptr true 0 (c.tc [])), tI .i64 most] K := by
  obtain ⟨hp1, hp0, hp2⟩ := hpre
  conv => whnf
  refine chk_i hp1 ?_
  conv => whnf
  intro n d0 hd0
  obtain ⟨⟨hn0, hn1, hn2⟩, hd0⟩ := hd0
  have hn : n ≤ 240 := by
    rw [wrap_id (n := most + 1) (by omega) (by omega)] at hn2
    have := hn2 (by omega); omega
  conv => whnf
  refine loop (α := Nat × Cur × List Pick) (fun q => ⟨[(0, .v (.c (.ptr 0 0))), (5, .v (.c (.sl true .pick 2))), (6, .v (.c (.int .i64 n))), (7, .v (.c (.int .i64 (q.1 : Int))))],
        [(2, some (.flat true .pick none q.2.2)), (1, some (.flat false (.int .u8) none q.2.1.b)), (0, some (.box true (cuC q.2.1 1)))], nums.tail.tail.tail, [.v (.c (.ptr 0 0))], false, []⟩)
      (fun q => q.1 ≤ 240 ∧ CurOk q.2.1 ∧ q.2.2.length = q.1) (fun q => 240 - q.1) (fun q R hI hR => ?_) (0, d0, []) _ ⟨by simp, hd0, rfl⟩ (by show 240 - 0 < 300 + FU; omega)
  obtain ⟨i, e, m⟩ := q
  obtain ⟨hi, he, hm⟩ := hI
  dsimp only at hi he hm hR ⊢
  conv => whnf
  repeat' (first | (refine sel_i (fun h => ?_) (fun h => ?_) <;> conv => whnf) | (refine chk_c ?_ ?_ <;> conv => whnf) | (refine And.intro ?_ rfl) | (refine And.intro ?_ ?_ <;> conv => whnf) | (intro x y z d hd; (try have g1 := And.left hd); (try have g2 := And.right hd); (try have g3 := And.left (And.right hd)); (try have g4 := And.right (And.right hd)); conv => whnf) | (intro x y d hd; (try have g1 := And.left hd); (try have g2 := And.right hd); (try have g3 := And.left (And.right hd)); (try have g4 := And.right (And.right hd)); conv => whnf) | (intro x d hd; (try have g1 := And.left hd); (try have g2 := And.right hd); (try have g3 := And.left (And.right hd)); (try have g4 := And.right (And.right hd)); conv => whnf) | (intro d hd; (try have g1 := And.left hd); (try have g2 := And.right hd); (try have g3 := And.left (And.right hd)); (try have g4 := And.right (And.right hd)); conv => whnf))
  all_goals first
    | (refine ⟨?_⟩; exact he)
    | (refine ⟨?_⟩; simp only [List.length_cons, List.length_nil]; omega)
    | exact hK m e ⟨by omega, he⟩
    | (have h := of_decide_eq_true h
       rw [wrap_id (n := (i : Int) + 1) (by omega) (by omega)]
       refine hR (i + 1, _, m ++ [_]) ⟨?_, hd, ?_⟩ ?_
       · dsimp only; omega
       · simp [hm]
       · dsimp only; omega)
    | trace_state
theorem ok_spec_l16DrawPicks : FunOk Tryz.prog c_spec_l16DrawPicks := funOkR (E := [c_spec_l1Below, c_spec_l16DrawPick]) (envOk_cons ok_spec_l1Below (envOk_cons ok_spec_l16DrawPick (envOk_nil))) mixd Tryz.func63 (pf := pf_spec_l16DrawPicks) (by kernel_rfl) fun ts K h => by
  obtain ⟨t0, t1, e0, h⟩ := as2_out h
  subst e0
  obtain ⟨c, e1, hq⟩ := arQ_out rd_cur h
  clear h
  subst e1
  have h := hq
  clear hq
  obtain ⟨most, e1, hq⟩ := arC_out (rd_int .i64) h
  clear h
  subst e1
  have h := hq
  clear hq
  obtain ⟨hpre, h⟩ := chk_o h
  exact ⟨Nat.le_of_ble_eq_true (show Nat.ble 2 Tryz.f63.ntmps = true by kernel_rfl), _, run_spec_l16DrawPicks 0 c most hpre h⟩

theorem kRun {K : Tree → List Tree → Prop} {o : List Tree} {P : State → Prop} {l : List Inst} {ps : List Pick} (hK : ∀ s : State, P s → K (.tup [.c (tl true .inst l), .g (s.tc true []), .c (tl true .pick ps)]) o) (s : State) (hp : P s) :
    K (.tup [.c (.ow .inst l), .g [.ow .word s.regs, .int .i64 s.pc.n, .bool s.pc.is, .int .i64 s.pc.key.base, .int .i64 s.pc.key.top, .int .i64 s.pc.key.perms, .int .i64 s.pc.key.sealed, .ow .word s.mem.words, .ow .bool s.mem.gone, .int .i64 s.trap], .c (.ow .pick ps)]) o := hK s hp

def pf_spec_DrawCoreRun : PF := ⟨[.t 2, .c 3 true 10, .t 4], .seq (.reg [.s (.mv 2 (.k (.v (.c (.nils .inst))))), .s (.alloc 3 [.nils .word, .int .i64 0, .ff, .int .i64 0, .int .i64 0, .int .i64 0, .int .i64 0, .nils .word, .nils .bool, .int .i64 0]), .s (.mv 4 (.k (.v (.c (.nils .pick)))))]) (.seq (.reg [.s (.mv 9 (.t 0)), .s (.call (some 10) 32 [(.t 9)]), .s (.mv 5 (.t 10))]) (.seq (.reg [.s (.mv 12 (.t 5)), .s (.call (some 13) 62 [(.t 12)]), .s (.mv 11 (.t 13)), .s (.ext 14 (.t 11) 0), .s (.ext 15 (.t 11) 1), .s (.alloc 7 [.nils .word, .int .i64 0, .ff, .int .i64 0, .int .i64 0, .int .i64 0, .int .i64 0, .nils .word, .nils .bool, .int .i64 0]), .s (.mv 6 (.t 14)), .s (.store 10 (.t 7) (.t 15))]) (.seq (.reg [.s (.mv 16 (.t 5)), .s (.mv 17 (.t 0)), .s (.call (some 18) 64 [(.t 17), (.k (.v (.c (.int .i64 60)))), (.k (.v (.c (.int .i64 150))))]), .s (.call (some 19) 63 [(.t 16), (.t 18)]), .s (.mv 8 (.t 19))]) (.seq (.seq (.reg [.s (.mv 20 (.t 5)), .s (.call (some 21) 65 [(.t 20), (.k (.v (.c (.int .i64 90))))])]) (.cond (.t 21) (.reg [.s (.mv 22 (.t 5)), .s (.call (some 23) 66 [(.t 22), (.k (.v (.c (.int .i64 2))))]), .s (.bin 24 .add (.k (.v (.c (.int .i64 600)))) (.t 23)), .s (.mkS 25 .pick (.t 24)), .s (.mv 8 (.t 25))]) (.skip))) (.seq (.rgd [] [.s (.mv 26 (.t 6)), .s (.load 27 true 10 (.t 7)), .s (.mv 28 (.t 8)), .s (.mv 2 (.t 26)), .s (.store 10 (.t 3) (.t 27)), .s (.mv 4 (.t 28))] (.tk 0 (.tk 1 (.tk 2 (.tk 3 (.one 4 true (.tk 5 (.done none)))))))) (.ret))))))⟩
def c_spec_DrawCoreRun : Fun := ⟨23, [], fun ts K => as1 ts fun t0 => arC (pL (.int .u8)) t0 fun code => chk (code.length ≤ 1048576) (∀ (l : List Inst) (s : State) (ps : List Pick), (l.length ≤ 20 ∧ LState s 24 ∧ ps.length ≤ 601) → K (.tup [.c (tl true .inst l), .g (s.tc true []), .c (tl true .pick ps)]) [])⟩
theorem run_spec_DrawCoreRun (code : List (FT.Ty (.int .u8))) (hpre : code.length ≤ 1048576) {K : Tree → List Tree → Prop} (hK : ∀ (l : List Inst) (s : State) (ps : List Pick), (l.length ≤ 20 ∧ LState s 24 ∧ ps.length ≤ 601) → K (.tup [.c (tl true .inst l), .g (s.tc true []), .c (tl true .pick ps)]) []) : runK [c_spec_l1New, c_spec_l9Draw, c_spec_l1Long_v_In, c_spec_l16DrawPicks, c_spec_l1Once, c_spec_l1Below] (0) [] pf_spec_DrawCoreRun [tL false (.int .u8) code] K := by
  conv => whnf
  refine chk_i hpre ?_
  conv => whnf
  intro e0 he0
  conv => whnf
  refine chk_i he0 ?_
  conv => whnf
  intro l s e1 he1
  obtain ⟨⟨hl, hs⟩, he1⟩ := he1
  conv => whnf
  refine chk_i ⟨hpre, by decide, by decide, by decide⟩ ?_
  conv => whnf
  intro m hm
  conv => whnf
  refine chk_i ⟨he1, by omega, by omega⟩ ?_
  conv => whnf
  intro ps e2 he2
  obtain ⟨hps, he2⟩ := he2
  conv => whnf
  refine chk_i he2 ?_
  conv => whnf
  intro b e3 he3
  conv => whnf
  repeat' (first | (refine sel_i (fun h => ?_) (fun h => ?_) <;> conv => whnf) | (refine chk_c ?_ ?_ <;> conv => whnf) | (refine And.intro ?_ rfl) | (refine And.intro ?_ ?_ <;> conv => whnf) | (intro x y z d hd; (try have g1 := And.left hd); (try have g2 := And.right hd); (try have g3 := And.left (And.right hd)); (try have g4 := And.right (And.right hd)); conv => whnf) | (intro x y d hd; (try have g1 := And.left hd); (try have g2 := And.right hd); (try have g3 := And.left (And.right hd)); (try have g4 := And.right (And.right hd)); conv => whnf) | (intro x d hd; (try have g1 := And.left hd); (try have g2 := And.right hd); (try have g3 := And.left (And.right hd)); (try have g4 := And.right (And.right hd)); conv => whnf) | (intro d hd; (try have g1 := And.left hd); (try have g2 := And.right hd); (try have g3 := And.left (And.right hd)); (try have g4 := And.right (And.right hd)); conv => whnf))
  all_goals first
    | (refine ⟨?_⟩; exact he3)
    | (exact kRun (fun s hs => hK l s _ ⟨hl, hs, by omega⟩) s hs)
    | (have h1 := hd.1; rw [wrap_id (n := 600 + _) (by omega) (by omega)] at *; refine ⟨?_⟩; omega)
    | (have h1 := hd.1; exact kRun (fun s hs => hK l s _ ⟨hl, hs, by rw [List.length_replicate, wrap_id (by omega) (by omega)]; omega⟩) s hs)
    | trace_state
theorem ok_spec_DrawCoreRun : FunOk Tryz.prog c_spec_DrawCoreRun := funOkR (E := [c_spec_l1New, c_spec_l9Draw, c_spec_l1Long_v_In, c_spec_l16DrawPicks, c_spec_l1Once, c_spec_l1Below]) (envOk_cons ok_spec_l1New (envOk_cons ok_spec_l9Draw (envOk_cons ok_spec_l1Long_v_In (envOk_cons ok_spec_l16DrawPicks (envOk_cons ok_spec_l1Once (envOk_cons ok_spec_l1Below (envOk_nil))))))) mixd Tryz.func23 (pf := pf_spec_DrawCoreRun) (by kernel_rfl) fun ts K h => by
  obtain ⟨t0, e0, h⟩ := as1_out h
  subst e0
  obtain ⟨code, e1, hq⟩ := arC_out (rd_l (.int .u8)) h
  clear h
  subst e1
  have h := hq
  clear hq
  obtain ⟨hpre, h⟩ := chk_o h
  exact ⟨Nat.le_of_ble_eq_true (show Nat.ble 1 Tryz.f23.ntmps = true by kernel_rfl), _, run_spec_DrawCoreRun code hpre h⟩

def pf_spec_DrawCostOf : PF := ⟨[.t 2, .c 3 true 10, .t 4], .seq (.reg [.s (.mv 2 (.k (.v (.c (.nils .inst))))), .s (.alloc 3 [.nils .word, .int .i64 0, .ff, .int .i64 0, .int .i64 0, .int .i64 0, .int .i64 0, .nils .word, .nils .bool, .int .i64 0]), .s (.mv 4 (.k (.v (.c (.nils .pick)))))]) (.seq (.reg [.s (.mv 9 (.t 0)), .s (.call (some 10) 23 [(.t 9)]), .s (.mv 8 (.t 10)), .s (.ext 11 (.t 8) 0), .s (.ext 12 (.t 8) 1), .s (.ext 13 (.t 8) 2), .s (.alloc 6 [.nils .word, .int .i64 0, .ff, .int .i64 0, .int .i64 0, .int .i64 0, .int .i64 0, .nils .word, .nils .bool, .int .i64 0]), .s (.mv 5 (.t 11)), .s (.store 10 (.t 6) (.t 12)), .s (.mv 7 (.t 13))]) (.seq (.rgd [] [.s (.mv 14 (.t 5)), .s (.load 15 true 10 (.t 6)), .s (.mv 16 (.t 7)), .s (.mv 2 (.t 14)), .s (.store 10 (.t 3) (.t 15)), .s (.mv 4 (.t 16))] (.tk 0 (.tk 1 (.tk 2 (.tk 3 (.one 4 true (.tk 5 (.done none)))))))) (.ret)))⟩
def c_spec_DrawCostOf : Fun := ⟨6, [], fun ts K => as1 ts fun t0 => arC (pL (.int .u8)) t0 fun code => chk (code.length ≤ 1048576) (∀ (l : List Inst) (s : State) (ps : List Pick), (l.length ≤ 20 ∧ LState s 24 ∧ ps.length ≤ 601) → K (.tup [.c (tl true .inst l), .g (s.tc true []), .c (tl true .pick ps)]) [])⟩
theorem run_spec_DrawCostOf (code : List (FT.Ty (.int .u8))) (hpre : code.length ≤ 1048576) {K : Tree → List Tree → Prop} (hK : ∀ (l : List Inst) (s : State) (ps : List Pick), (l.length ≤ 20 ∧ LState s 24 ∧ ps.length ≤ 601) → K (.tup [.c (tl true .inst l), .g (s.tc true []), .c (tl true .pick ps)]) []) : runK [c_spec_DrawCoreRun] (0) [] pf_spec_DrawCostOf [tL false (.int .u8) code] K := by
  conv => whnf
  repeat' (first | (refine sel_i (fun h => ?_) (fun h => ?_) <;> conv => whnf) | (refine chk_c ?_ ?_ <;> conv => whnf) | (refine And.intro ?_ rfl) | (refine And.intro ?_ ?_ <;> conv => whnf) | (intro x y z d hd; (try have g1 := And.left hd); (try have g2 := And.right hd); (try have g3 := And.left (And.right hd)); (try have g4 := And.right (And.right hd)); conv => whnf) | (intro x y d hd; (try have g1 := And.left hd); (try have g2 := And.right hd); (try have g3 := And.left (And.right hd)); (try have g4 := And.right (And.right hd)); conv => whnf) | (intro x d hd; (try have g1 := And.left hd); (try have g2 := And.right hd); (try have g3 := And.left (And.right hd)); (try have g4 := And.right (And.right hd)); conv => whnf) | (intro d hd; (try have g1 := And.left hd); (try have g2 := And.right hd); (try have g3 := And.left (And.right hd)); (try have g4 := And.right (And.right hd)); conv => whnf))
  all_goals first
    | (refine ⟨?_⟩; exact hpre)
    | (exact kRun (fun s hs => hK _ s _ ⟨hd.1, hs, hd.2.2⟩) _ hd.2.1)
    | trace_state
theorem ok_spec_DrawCostOf : FunOk Tryz.prog c_spec_DrawCostOf := funOkR (E := [c_spec_DrawCoreRun]) (envOk_cons ok_spec_DrawCoreRun (envOk_nil)) mixd Tryz.func6 (pf := pf_spec_DrawCostOf) (by kernel_rfl) fun ts K h => by
  obtain ⟨t0, e0, h⟩ := as1_out h
  subst e0
  obtain ⟨code, e1, hq⟩ := arC_out (rd_l (.int .u8)) h
  clear h
  subst e1
  have h := hq
  clear hq
  obtain ⟨hpre, h⟩ := chk_o h
  exact ⟨Nat.le_of_ble_eq_true (show Nat.ble 1 Tryz.f6.ntmps = true by kernel_rfl), _, run_spec_DrawCostOf code hpre h⟩

/-! costs grow -/
abbrev zC : Cost := ⟨0, 0, 0, 0, 0⟩
theorem doC_less {c : Core} {i : Int} (h : coreOk c = true) : (doC c i).1.rob.length ≤ c.rob.length := by
  have hp := putAt_len c i
  unfold doC
  rw [if_neg (by rw [h]; decide)]
  split
  · exact Nat.le_refl _
  · split
    · simp only [List.length_take]; omega
    · split
      · simp only [List.length_take]; omega
      · dsimp only; omega
theorem commitC_less {c : Core} (h : coreOk c = true) (h2 : (commitC c).2 = true) : (commitC c).1.rob.length < c.rob.length := by
  unfold commitC at h2 ⊢
  rw [if_neg (by rw [h]; decide)] at h2 ⊢
  split at h2
  · cases h2
  · rename_i q
    rw [if_neg q]
    have hl : 0 < c.rob.length := Nat.pos_of_ne_zero fun e => q (.inl e)
    split
    · exact hl
    · split
      · exact hl
      · simp only [List.length_drop]; omega
def coreGo (l : List Inst) : List Pick → Core → Core
  | [], c => c
  | p :: ps, c => coreGo l ps (pickC l c p).1
theorem costOf_bnd (l : List Inst) (s : State) {ps : List Pick} (h : ps.length ≤ 601) : BndC (costOf l s ps).1 100000 := by
  have go : ∀ (ps : List Pick) (c : Core) (k : Cost) (n : Int), 0 ≤ n → BndC k n → BndC (costGo l ps c k) (n + 8 * ps.length) := by
    intro ps
    induction ps with
    | nil => intro c k n _ hb; unfold costGo; exact bndC_mono hb (by simp)
    | cons p ps ih =>
      intro c k n hn hb
      have := ih (pickC l c p).1 (costStep l c p k) (n + 8) (by omega) (costStep_bnd hb hn)
      exact bndC_mono this (by rw [List.length_cons]; omega)
  unfold costOf
  split
  · exact bndC_mono (go ps (coreNew s) zC 0 (by omega) (by unfold BndC; dsimp only; omega)) (by omega)
  · unfold BndC; dsimp only; omega
end Go.Pi
