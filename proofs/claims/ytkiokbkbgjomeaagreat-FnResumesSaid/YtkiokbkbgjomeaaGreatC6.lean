/- Contracts of functions, each out of its run by PI. No conditions. -/
import Derived.Test.YtkiokbkbgjomeaaGreatC5
namespace Go.Pi
open Go.Proofs
set_option linter.unusedVariables false
set_option linter.unusedSimpArgs false
set_option maxRecDepth 100000
attribute [local irreducible] iterN
def pf_laws_toIns : PF := ⟨[.c 2 true 5], .seq (.reg [.s (.box 1 (.t 0)), .s (.alloc 2 [.int .i64 0, .int .i64 0, .int .i64 0, .int .i64 0, .int .i64 0])]) (.seq (.reg [.s (.alloc 3 [.int .i64 0, .int .i64 0, .int .i64 0, .int .i64 0, .int .i64 0])]) (.seq (.reg [.s (.fa 4 (.t 1) 0), .s (.load 5 false 1 (.t 4)), .s (.fa 6 (.t 3) 0), .s (.store 1 (.t 6) (.t 5))]) (.seq (.reg [.s (.fa 7 (.t 1) 1), .s (.load 8 false 1 (.t 7)), .s (.fa 9 (.t 3) 1), .s (.store 1 (.t 9) (.t 8))]) (.seq (.reg [.s (.fa 10 (.t 1) 2), .s (.load 11 false 1 (.t 10)), .s (.fa 12 (.t 3) 2), .s (.store 1 (.t 12) (.t 11))]) (.seq (.reg [.s (.fa 13 (.t 1) 3), .s (.load 14 false 1 (.t 13)), .s (.fa 15 (.t 3) 3), .s (.store 1 (.t 15) (.t 14))]) (.seq (.reg [.s (.fa 16 (.t 1) 4), .s (.load 17 false 1 (.t 16)), .s (.fa 18 (.t 3) 4), .s (.store 1 (.t 18) (.t 17))]) (.seq (.reg [.s (.load 19 true 5 (.t 3)), .s (.store 5 (.t 2) (.t 19))]) (.ret))))))))⟩
def c_laws_toIns : Fun := ⟨124, [], fun ts K => as1 ts fun t0 => arG pInstT t0 fun a => K (tG (a.tc [])) []⟩
theorem run_laws_toIns (a : Inst) : runK [] (0) [] pf_laws_toIns [tG (a.tc [])] fun r o => r = tG (a.tc []) ∧ o = [] := by
  conv => whnf
  repeat' (first
    | exact rfl
    | exact trivial
    | (refine sel_i (fun h => ?_) (fun h => ?_) <;> conv => whnf)
    | (refine chk_c ?_ ?_ <;> conv => whnf)
    | (refine And.intro ?_ ?_ <;> conv => whnf))
theorem ok_laws_toIns : FunOk Tryz.prog c_laws_toIns := funOk (E := []) (envOk_nil) mixd Tryz.func124 (pf := pf_laws_toIns) (by kernel_rfl) fun ts K h => by
  obtain ⟨t0, e0, h⟩ := as1_out h
  subst e0
  obtain ⟨a, e1, hq⟩ := arG_out rd_inst h
  clear h
  subst e1
  have h := hq
  clear hq
  exact ⟨_, _, h, Nat.le_of_ble_eq_true (show Nat.ble 1 Tryz.f124.ntmps = true by kernel_rfl), _, run_laws_toIns a⟩

def pf_laws_szInsS : PF := ⟨[.t 4], .seq (.reg [.s (.mv 4 (.k (.v (.c (.int .i64 0)))))]) (.seq (.reg [.s (.mv 5 (.t 1)), .s (.mv 6 (.t 0)), .s (.len 7 false (.t 6)), .s (.bin 8 .sub (.t 5) (.t 7)), .s (.mv 1 (.t 8))]) (.seq (.seq (.reg [.s (.mv 9 (.t 1)), .s (.bin 10 .lss (.t 9) (.k (.v (.c (.int .i64 0)))))]) (.cond (.t 10) (.seq (.reg [.s (.mv 4 (.k (.v (.c (.int .i64 (-1))))))]) (.ret)) (.skip))) (.seq (.reg [.s (.mv 11 (.t 1)), .s (.mv 4 (.t 11))]) (.ret))))⟩
def c_laws_szInsS : Fun := ⟨52, [], fun ts K => as2 ts fun t0 t1 => arC (pL .inst) t0 fun a => arC (pI .i64) t1 fun k => chk (a.length ≤ 9223372036854775807 ∧ 0 ≤ k ∧ k ≤ 1048576) (K (tN (szr k a.length)) [])⟩
theorem run_laws_szInsS (a : List (FT.Ty .inst)) (k : Int) (hpre : a.length ≤ 9223372036854775807 ∧ 0 ≤ k ∧ k ≤ 1048576) : runK [] (0) [] pf_laws_szInsS [tL false .inst a, tI .i64 k] fun r o => r = tN (szr k a.length) ∧ o = [] := by
  conv => whnf
  rw [wrap_id (by omega) (by omega)]
  refine sel_i (fun h => ?_) (fun h => ?_) <;> conv => whnf
  · refine ⟨?_, rfl⟩; rw [szr_t (by simpa using h)]
  · refine ⟨?_, rfl⟩; rw [szr_f (by simpa using h)]
theorem ok_laws_szInsS : FunOk Tryz.prog c_laws_szInsS := funOk (E := []) (envOk_nil) mixd Tryz.func52 (pf := pf_laws_szInsS) (by kernel_rfl) fun ts K h => by
  obtain ⟨t0, t1, e0, h⟩ := as2_out h
  subst e0
  obtain ⟨a, e1, hq⟩ := arC_out (rd_l .inst) h
  clear h
  subst e1
  have h := hq
  clear hq
  obtain ⟨k, e1, hq⟩ := arC_out (rd_int .i64) h
  clear h
  subst e1
  have h := hq
  clear hq
  obtain ⟨hpre, h⟩ := chk_o h
  exact ⟨_, _, h, Nat.le_of_ble_eq_true (show Nat.ble 2 Tryz.f52.ntmps = true by kernel_rfl), _, run_laws_szInsS a k hpre⟩

def lb_laws_toInsS_0 : PC := .seq (.seq (.reg [.s (.mv 8 (.t 4)), .s (.mv 9 (.t 0)), .s (.len 10 false (.t 9)), .s (.bin 11 .lss (.t 8) (.t 10))]) (.cond (.t 11) (.skip) (.exit 0))) (.seq (.blk 1 (.reg [.s (.mv 14 (.t 3)), .s (.mv 15 (.t 4)), .s (.mv 16 (.t 0)), .s (.mv 17 (.t 4)), .s (.ia 18 .inst (.t 16) (.t 17)), .s (.load 19 true 5 (.t 18)), .s (.call (some 20) 124 [(.t 19)]), .s (.ia 21 .inst (.t 14) (.t 15)), .s (.store 5 (.t 21) (.t 20))])) (.reg [.s (.mv 12 (.t 4)), .s (.bin 13 .add (.t 12) (.k (.v (.c (.int .i64 1))))), .s (.mv 4 (.t 13))]))
def pf_laws_toInsS : PF := ⟨[.t 2], .seq (.reg [.s (.mv 2 (.k (.v (.c (.nils .inst)))))]) (.seq (.reg [.s (.mv 5 (.t 0)), .s (.len 6 false (.t 5)), .s (.mkS 7 .inst (.t 6)), .s (.mv 3 (.t 7))]) (.seq (.seq (.reg [.s (.mv 4 (.k (.v (.c (.int .i64 0)))))]) (.blk 0 (.loop [0, 3, 4] lb_laws_toInsS_0))) (.seq (.reg [.s (.mv 22 (.t 3)), .s (.mv 2 (.t 22))]) (.ret))))⟩
def c_laws_toInsS : Fun := ⟨56, [], fun ts K => as1 ts fun t0 => arC (pL .inst) t0 fun a => chk (a.length ≤ 2147483647) (K (tL true .inst a) [])⟩
theorem run_laws_toInsS (a : List (FT.Ty .inst)) (hpre : a.length ≤ 2147483647) : runK [c_laws_toIns] (a.length + 1) [] pf_laws_toInsS [tL false .inst a] fun r o => r = tL true .inst a ∧ o = [] := by
  conv => whnf
  refine chk_i ⟨by omega, by omega⟩ ?_
  conv => whnf
  refine loop (α := Nat × List (FT.Ty .inst)) (fun p => ⟨[(0, .v (.c (.sl false .inst 0))), (3, .v (.c (.sl true .inst 1))), (4, .v (.c (.int .i64 (p.1 : Int))))], [(1, some (.flat true .inst none p.2)), (0, some (.flat false .inst none a))], nums.tail.tail, [], false, []⟩)
      (fun p => p.1 ≤ a.length ∧ p.2 = a.take p.1 ++ (List.replicate a.length (FT.zero .inst)).drop p.1) (fun p => a.length - p.1) (fun p R hI hR => ?_) (0, List.replicate a.length (FT.zero .inst)) _ ⟨by simp, by simp⟩ (by simp)
  obtain ⟨i, xs⟩ := p
  obtain ⟨hi, hx⟩ := hI
  dsimp only at hi hx
  have hlen : xs.length = a.length := by rw [hx]; simp; omega
  dsimp only
  conv => whnf
  refine sel_i (fun h2 => ?_) (fun h2 => ?_)
  · have hlt : i < a.length := by simp at h2; omega
    have hge : a[i]? = some (a.getD i (FT.zero .inst)) := by simp [List.getD_eq_getElem?_getD, hlt]
    conv => whnf
    repeat' (refine chk_c ?_ ?_ <;> conv => whnf)
    all_goals first
      | (refine ⟨?_⟩; omega)
      | (refine ⟨?_⟩; simp; done)
      | (refine ⟨?_⟩; simp; omega)
      | skip
    simp (disch := omega) only [wrap_id, Int.toNat_natCast]
    exact hR (i + 1, xs.set i (a.getD i (FT.zero .inst))) ⟨by omega, by rw [hx]; exact set_mid (by simp) (by simpa using hlt) hge⟩ (by simp; omega)
  · have hge : i = a.length := by simp at h2; omega
    subst hge
    conv => whnf
    refine ⟨?_, rfl⟩
    rw [hx, List.take_of_length_le (by omega), List.drop_eq_nil_of_le (by simp), List.append_nil]
theorem ok_laws_toInsS : FunOk Tryz.prog c_laws_toInsS := funOk (E := [c_laws_toIns]) (envOk_cons ok_laws_toIns (envOk_nil)) mixd Tryz.func56 (pf := pf_laws_toInsS) (by kernel_rfl) fun ts K h => by
  obtain ⟨t0, e0, h⟩ := as1_out h
  subst e0
  obtain ⟨a, e1, hq⟩ := arC_out (rd_l .inst) h
  clear h
  subst e1
  have h := hq
  clear hq
  obtain ⟨hpre, h⟩ := chk_o h
  exact ⟨_, _, h, Nat.le_of_ble_eq_true (show Nat.ble 1 Tryz.f56.ntmps = true by kernel_rfl), _, run_laws_toInsS a hpre⟩

def szState (s : State) (k : Int) : Int := szB (szr k s.regs.length) fun k => szMem s.mem k
theorem szMem_ge (m : Mem) {k : Int} (h : 0 ≤ k) : -1 ≤ szMem m k := by
  unfold szMem szB; split
  · omega
  · exact szr_ge
theorem szState_n {s : State} {k : Int} (h0 : k ≤ 1048576) (h : 0 ≤ szState s k) : LState s 1048576 := by
  obtain ⟨h1, h2, _⟩ := szB_pos h
  have h4 := szr_n h1
  have h5 := szMem_n (by omega) h2
  exact ⟨by omega, h5.1⟩
theorem LState.mono {t : State} {n m : Nat} (h : LState t n) (k : n ≤ m) : LState t m := ⟨Nat.le_trans h.1 k, Nat.le_trans h.2.1 k, Nat.le_trans h.2.2 k⟩
theorem lState_of {t : State} (h : WState t) : LState t 9223372036854775807 := ⟨h.1.2, h.2.2.1.1.2, h.2.2.1.2.2⟩
def seenOf (l : List Inst) (s : State) : Seen × Bool :=
  if stateOk s = false ∨ s.trap ≠ 0 then (⟨0, 0, 0, 0⟩, false) else (⟨s.pc.n, (effE l s).r, (effE l s).addr, (effE l s).trap⟩, true)
theorem seenOf_no {l : List Inst} {s : State} (h : stateOk s = false) : seenOf l s = (⟨0, 0, 0, 0⟩, false) := if_pos (.inl h)
theorem seenOf_t {l : List Inst} {s : State} (h : ¬ s.trap = 0) : seenOf l s = (⟨0, 0, 0, 0⟩, false) := if_pos (.inr h)
theorem seenOf_0 {l : List Inst} {s : State} (h : stateOk s = true) (h2 : s.trap = 0) : seenOf l s = (⟨s.pc.n, (effE l s).r, (effE l s).addr, (effE l s).trap⟩, true) :=
  if_neg (by rintro (q | q); · rw [h] at q; cases q
             · exact q h2)

def pf_laws_szState : PF := ⟨[.t 4], .seq (.reg [.s (.box 2 (.t 0)), .s (.mv 4 (.k (.v (.c (.int .i64 0)))))]) (.seq (.reg [.s (.fa 5 (.t 2) 0), .s (.load 6 false 1 (.t 5)), .s (.mv 7 (.t 1)), .s (.call (some 8) 118 [(.t 6), (.t 7)]), .s (.mv 1 (.t 8))]) (.seq (.seq (.reg [.s (.mv 9 (.t 1)), .s (.bin 10 .lss (.t 9) (.k (.v (.c (.int .i64 0)))))]) (.cond (.t 10) (.seq (.reg [.s (.mv 4 (.k (.v (.c (.int .i64 (-1))))))]) (.ret)) (.skip))) (.seq (.reg [.s (.fa 11 (.t 2) 7), .s (.load 12 true 2 (.t 11)), .s (.mv 13 (.t 1)), .s (.call (some 14) 119 [(.t 12), (.t 13)]), .s (.mv 1 (.t 14))]) (.seq (.seq (.reg [.s (.mv 15 (.t 1)), .s (.bin 16 .lss (.t 15) (.k (.v (.c (.int .i64 0)))))]) (.cond (.t 16) (.seq (.reg [.s (.mv 4 (.k (.v (.c (.int .i64 (-1))))))]) (.ret)) (.skip))) (.seq (.reg [.s (.mv 17 (.t 1)), .s (.mv 4 (.t 17))]) (.ret))))))⟩
def c_laws_szState : Fun := ⟨53, [], fun ts K => as2 ts fun t0 t1 => arG pStateT t0 fun m => arC (pI .i64) t1 fun k => chk (LState m 9223372036854775807 ∧ 0 ≤ k ∧ k ≤ 1048576) (K (tN (szState m k)) [])⟩
theorem run_laws_szState (m : State) (k : Int) (hpre : LState m 9223372036854775807 ∧ 0 ≤ k ∧ k ≤ 1048576) : runK [c_laws_szWordS, c_laws_szMemory] (0) [] pf_laws_szState [tG (m.tc false []), tI .i64 k] fun r o => r = tN (szState m k) ∧ o = [] := by
  obtain ⟨⟨l1, l2⟩, hk, hk2⟩ := hpre
  have h0 := szr_le (n := m.regs.length) hk
  conv => whnf
  refine chk_i ⟨l1, hk, hk2⟩ ?_
  conv => whnf
  refine sel_i (fun h => ?_) (fun h => ?_)
  · conv => whnf
    refine ⟨?_, rfl⟩; simp at h; simp [szState, szB, h]
  · have h : 0 ≤ szr k m.regs.length := by simpa using h
    conv => whnf
    refine chk_i ⟨l2, h, show szr k m.regs.length ≤ _ by omega⟩ ?_
    conv => whnf
    repeat' (first | (refine sel_i (fun h => ?_) (fun h => ?_) <;> conv => whnf) | (refine chk_c ?_ ?_ <;> conv => whnf) | (refine And.intro ?_ rfl) | (refine And.intro ?_ ?_ <;> conv => whnf))
    · have h3 : szMem m.mem (szr k m.regs.length) < 0 := by simpa [etaMemory] using h
      have h4 := szMem_ge m.mem (k := szr k m.regs.length) (by assumption)
      have e : szState m k = szMem m.mem (szr k m.regs.length) := by unfold szState szB; rw [if_neg (by omega)]
      rw [e, show szMem m.mem (szr k m.regs.length) = -1 by omega]
    · have e : szState m k = szMem m.mem (szr k m.regs.length) := by unfold szState szB; rw [if_neg (by omega)]
      rw [e]
theorem ok_laws_szState : FunOk Tryz.prog c_laws_szState := funOk (E := [c_laws_szWordS, c_laws_szMemory]) (envOk_cons ok_laws_szWordS (envOk_cons ok_laws_szMemory (envOk_nil))) mixd Tryz.func53 (pf := pf_laws_szState) (by kernel_rfl) fun ts K h => by
  obtain ⟨t0, t1, e0, h⟩ := as2_out h
  subst e0
  obtain ⟨m, e1, hq⟩ := arG_out rd_state h
  clear h
  subst e1
  have h := hq
  clear hq
  obtain ⟨k, e1, hq⟩ := arC_out (rd_int .i64) h
  clear h
  subst e1
  have h := hq
  clear hq
  obtain ⟨hpre, h⟩ := chk_o h
  exact ⟨_, _, h, Nat.le_of_ble_eq_true (show Nat.ble 2 Tryz.f53.ntmps = true by kernel_rfl), _, run_laws_szState m k hpre⟩

def pf_laws_toState : PF := ⟨[.c 2 true 10], .seq (.reg [.s (.box 1 (.t 0)), .s (.alloc 2 [.nils .word, .int .i64 0, .ff, .int .i64 0, .int .i64 0, .int .i64 0, .int .i64 0, .nils .word, .nils .bool, .int .i64 0])]) (.seq (.reg [.s (.alloc 3 [.nils .word, .int .i64 0, .ff, .int .i64 0, .int .i64 0, .int .i64 0, .int .i64 0, .nils .word, .nils .bool, .int .i64 0])]) (.seq (.reg [.s (.fa 4 (.t 1) 0), .s (.load 5 false 1 (.t 4)), .s (.call (some 6) 125 [(.t 5)]), .s (.fa 7 (.t 3) 0), .s (.store 1 (.t 7) (.t 6))]) (.seq (.reg [.s (.fa 8 (.t 1) 1), .s (.load 9 true 6 (.t 8)), .s (.call (some 10) 126 [(.t 9)]), .s (.fa 11 (.t 3) 1), .s (.store 6 (.t 11) (.t 10))]) (.seq (.reg [.s (.fa 12 (.t 1) 7), .s (.load 13 true 2 (.t 12)), .s (.call (some 14) 127 [(.t 13)]), .s (.fa 15 (.t 3) 7), .s (.store 2 (.t 15) (.t 14))]) (.seq (.reg [.s (.fa 16 (.t 1) 9), .s (.load 17 false 1 (.t 16)), .s (.fa 18 (.t 3) 9), .s (.store 1 (.t 18) (.t 17))]) (.seq (.reg [.s (.load 19 true 10 (.t 3)), .s (.store 10 (.t 2) (.t 19))]) (.ret)))))))⟩
def c_laws_toState : Fun := ⟨57, [], fun ts K => as1 ts fun t0 => arG pStateT t0 fun m => chk (LState m 2147483647) (K (tG (m.tc true [])) [])⟩
theorem run_laws_toState (m : State) (hpre : LState m 2147483647) : runK [c_laws_toWordS, c_laws_toWord, c_laws_toMemory] (0) [] pf_laws_toState [tG (m.tc false [])] fun r o => r = tG (m.tc true []) ∧ o = [] := by
  obtain ⟨l1, l2, l3⟩ := hpre
  conv => whnf
  repeat' (first | (refine chk_c ?_ ?_ <;> conv => whnf) | (refine And.intro ?_ ?_ <;> conv => whnf))
  all_goals first
    | (refine ⟨?_⟩; omega)
    | (refine ⟨?_⟩; simp; done)
    | (refine ⟨?_⟩; simp [LMem, LTwo] at *; omega)
    | rfl
    | exact True.intro
    | exact ⟨rfl, rfl⟩
theorem ok_laws_toState : FunOk Tryz.prog c_laws_toState := funOk (E := [c_laws_toWordS, c_laws_toWord, c_laws_toMemory]) (envOk_cons ok_laws_toWordS (envOk_cons ok_laws_toWord (envOk_cons ok_laws_toMemory (envOk_nil)))) mixd Tryz.func57 (pf := pf_laws_toState) (by kernel_rfl) fun ts K h => by
  obtain ⟨t0, e0, h⟩ := as1_out h
  subst e0
  obtain ⟨m, e1, hq⟩ := arG_out rd_state h
  clear h
  subst e1
  have h := hq
  clear hq
  obtain ⟨hpre, h⟩ := chk_o h
  exact ⟨_, _, h, Nat.le_of_ble_eq_true (show Nat.ble 1 Tryz.f57.ntmps = true by kernel_rfl), _, run_laws_toState m hpre⟩

theorem workE_0 {x : Inst} {pc a b got : Word} (h : (workE x pc a b got).trap = 0) :
    (workE x pc a b got).r = setsI x ∧ (workE x pc a b got).addr = if x.op = 11 then IntKind.i64.wrap (a.n + x.n) else -1 := by
  by_cases h1 : x.op = 11
  · have e : setsI x = -1 := by unfold setsI; rw [h1, if_pos (by decide)]
    rw [e]; unfold workE; rw [if_pos h1, if_pos h1]; exact ⟨rfl, rfl⟩
  rw [if_neg h1]
  by_cases h2 : x.op = 12
  · have e : setsI x = x.r := by unfold setsI; rw [h2, if_neg (by decide)]
    rw [e]; unfold workE at h ⊢; rw [if_neg h1, if_pos h2] at h ⊢
    by_cases h3 : tryW a a.n 4 ≠ 0
    · rw [if_pos h3] at h; exact absurd h h3
    · rw [if_neg h3]; exact ⟨rfl, rfl⟩
  by_cases h3 : x.op = 13
  · have e : setsI x = -1 := by unfold setsI; rw [h3, if_pos (by decide)]
    rw [e]; unfold workE; rw [if_neg h1, if_neg h2, if_pos h3]; exact ⟨rfl, rfl⟩
  by_cases h4 : x.op = 14
  · have e : setsI x = -1 := by unfold setsI; rw [h4, if_pos (by decide)]
    rw [e]; unfold workE at h ⊢; rw [if_neg h1, if_neg h2, if_neg h3, if_pos h4] at h ⊢
    by_cases h5 : tryW a a.n 32 ≠ 0
    · rw [if_pos h5] at h; exact absurd h h5
    · rw [if_neg h5]; exact ⟨rfl, rfl⟩
  by_cases h5 : x.op = 15
  · unfold workE at h; rw [if_neg h1, if_neg h2, if_neg h3, if_neg h4, if_pos h5] at h; cases h
  by_cases h6 : 0 ≤ setsI x
  · rw [workE_pos h1 h2 h3 h4 h5 h6]; exact ⟨rfl, rfl⟩
  · rw [workE_neg h1 h2 h3 h4 h5 h6]; exact ⟨rfl, rfl⟩
theorem workE_t {x : Inst} {pc a b got : Word} (h : ¬ (workE x pc a b got).trap = 0) : (workE x pc a b got).r = -1 ∧ (workE x pc a b got).addr = -1 := by
  unfold workE at h ⊢
  repeat' (first | (exact ⟨rfl, rfl⟩) | (exact absurd rfl h) | split at h)
  all_goals simp_all [trapE]
theorem effE_0 {l : List Inst} {s : State} (h : (effE l s).trap = 0) : (fetchI l s.pc).2 = 0 ∧ (effE l s).r = setsI (fetchI l s.pc).1 ∧
    (effE l s).addr = if (fetchI l s.pc).1.op = 11 then IntKind.i64.wrap ((s.regs.getD (fetchI l s.pc).1.a.toNat (FT.zero .word)).n + (fetchI l s.pc).1.n) else -1 := by
  by_cases h1 : (fetchI l s.pc).2 = 0
  · refine ⟨h1, ?_⟩
    unfold effE at h ⊢
    simp only at h ⊢
    rw [if_neg (by simpa using h1)] at h ⊢
    split at h
    · rename_i h2; exact absurd h h2
    · rename_i h2; rw [if_neg h2]; exact workE_0 h
  · unfold effE at h; simp only at h; rw [if_pos h1] at h; exact absurd h h1
theorem effE_t {l : List Inst} {s : State} (h : ¬ (effE l s).trap = 0) : (effE l s).r = -1 ∧ (effE l s).addr = -1 := by
  unfold effE at h ⊢
  simp only at h ⊢
  split at h
  · rename_i h1; rw [if_pos h1]; exact ⟨rfl, rfl⟩
  · rename_i h1; rw [if_neg h1]
    split at h
    · rename_i h2; rw [if_pos h2]; exact ⟨rfl, rfl⟩
    · rename_i h2; rw [if_neg h2]; exact workE_t h
theorem stepS_tr {l : List Inst} {s : State} (h : stateOk s = true) (h2 : s.trap = 0) : (stepS l s).trap = (effE l s).trap := by
  by_cases h3 : (effE l s).trap = 0
  · rw [stepS_0 h h2 h3, h3]; exact h2
  · rw [stepS_e h h2 h3]

def pf_impl_SeenOf : PF := ⟨[.c 4 true 4, .t 5], .seq (.reg [.s (.box 3 (.t 1)), .s (.alloc 4 [.int .i64 0, .int .i64 0, .int .i64 0, .int .i64 0]), .s (.mv 5 (.k (.v (.c .ff))))]) (.seq (.seq (.reg [.s (.load 7 true 10 (.t 3)), .s (.call (some 8) 12 [(.t 7)]), .s (.bnot 9 (.t 8)), .s (.mv 10 (.t 9)), .g 10 false (some 11) (.fa 11 (.t 3) 9), .g 10 false (some 12) (.load 12 false 1 (.t 11)), .g 10 false (some 13) (.bin 13 .neq (.t 12) (.k (.v (.c (.int .i64 0))))), .s (.pick 14 (.t 10) (.k (.v (.c .tt))) (.t 13))]) (.cond (.t 14) (.seq (.reg [.s (.build 15 [.int .i64 0, .int .i64 0, .int .i64 0, .int .i64 0] []), .s (.store 4 (.t 4) (.t 15)), .s (.mv 5 (.k (.v (.c .ff))))]) (.ret)) (.skip))) (.seq (.reg [.s (.mv 16 (.t 0)), .s (.load 17 true 10 (.t 3)), .s (.call (some 18) 78 [(.t 16), (.t 17)]), .s (.alloc 6 [.int .i64 0, .int .i64 0, .int .i64 0, .ff, .int .i64 0, .int .i64 0, .int .i64 0, .int .i64 0, .int .i64 0, .ff, .int .i64 0, .int .i64 0, .int .i64 0, .int .i64 0, .int .i64 0, .int .i64 0, .ff, .int .i64 0, .int .i64 0, .int .i64 0, .int .i64 0, .int .i64 0]), .s (.store 22 (.t 6) (.t 18))]) (.seq (.reg [.s (.fa 19 (.t 3) 1), .s (.fa 20 (.t 19) 0), .s (.load 21 false 1 (.t 20)), .s (.fa 22 (.t 6) 1), .s (.load 23 false 1 (.t 22)), .s (.fa 24 (.t 6) 14), .s (.load 25 false 1 (.t 24)), .s (.fa 26 (.t 6) 0), .s (.load 27 false 1 (.t 26)), .s (.build 28 [.int .i64 0, .int .i64 0, .int .i64 0, .int .i64 0] [(0, 1, (.t 21)), (1, 1, (.t 23)), (2, 1, (.t 25)), (3, 1, (.t 27))]), .s (.store 4 (.t 4) (.t 28)), .s (.mv 5 (.k (.v (.c .tt))))]) (.ret))))⟩
def c_impl_SeenOf : Fun := ⟨24, [], fun ts K => as2 ts fun t0 t1 => arC (pL .inst) t0 fun l => arG pStateT t1 fun s => chk (l.length ≤ 2147483647 ∧ LState s 2147483647) (K (.tup [.g ((seenOf l s).1.tc []), T1.c (.bool (seenOf l s).2)]) [])⟩
theorem run_impl_SeenOf (l : List (FT.Ty .inst)) (s : State) (hpre : l.length ≤ 2147483647 ∧ LState s 2147483647) : runK [c_impl_StateOk, c_impl_effectOf] (0) [] pf_impl_SeenOf [tL false .inst l, tG (s.tc false [])] fun r o => r = .tup [.g ((seenOf l s).1.tc []), T1.c (.bool (seenOf l s).2)] ∧ o = [] := by
  obtain ⟨l1, l2⟩ := hpre
  conv => whnf
  repeat' (first | (refine sel_i (fun h => ?_) (fun h => ?_) <;> conv => whnf) | (refine chk_c ?_ ?_ <;> conv => whnf) | (refine And.intro ?_ rfl) | (refine And.intro ?_ ?_ <;> conv => whnf))
  all_goals (try simp only [etaKey, etaWord, etaInst, etaEff, etaMemory, etaState, bne_iff_ne, ne_eq, bne_eq_false_iff_eq, beq_iff_eq, beq_eq_false_iff_ne, Bool.not_eq_true', Bool.not_eq_false', decide_eq_true_eq, decide_eq_false_iff_not] at *)
  all_goals first
    | (refine ⟨?_⟩; assumption)
    | (refine ⟨?_⟩; exact ⟨l1, stateOk_len (by assumption)⟩)
    | (rw [seenOf_no (by assumption)]; rfl)
    | (rw [seenOf_t (by assumption)]; rfl)
    | (rw [seenOf_0 (by assumption) (by assumption)]; rfl)
    | trace_state
theorem ok_impl_SeenOf : FunOk Tryz.prog c_impl_SeenOf := funOk (E := [c_impl_StateOk, c_impl_effectOf]) (envOk_cons ok_impl_StateOk (envOk_cons ok_impl_effectOf (envOk_nil))) mixd Tryz.func24 (pf := pf_impl_SeenOf) (by kernel_rfl) fun ts K h => by
  obtain ⟨t0, t1, e0, h⟩ := as2_out h
  subst e0
  obtain ⟨l, e1, hq⟩ := arC_out (rd_l .inst) h
  clear h
  subst e1
  have h := hq
  clear hq
  obtain ⟨s, e1, hq⟩ := arG_out rd_state h
  clear h
  subst e1
  have h := hq
  clear hq
  obtain ⟨hpre, h⟩ := chk_o h
  exact ⟨_, _, h, Nat.le_of_ble_eq_true (show Nat.ble 2 Tryz.f24.ntmps = true by kernel_rfl), _, run_impl_SeenOf l s hpre⟩

def pf_spec_SeenOf : PF := ⟨[.c 4 true 4, .t 5], .seq (.reg [.s (.box 3 (.t 1)), .s (.alloc 4 [.int .i64 0, .int .i64 0, .int .i64 0, .int .i64 0]), .s (.mv 5 (.k (.v (.c .ff))))]) (.seq (.seq (.reg [.s (.load 10 true 10 (.t 3)), .s (.call (some 11) 82 [(.t 10)]), .s (.bnot 12 (.t 11)), .s (.mv 13 (.t 12)), .g 13 false (some 14) (.fa 14 (.t 3) 9), .g 13 false (some 15) (.load 15 false 1 (.t 14)), .g 13 false (some 16) (.bin 16 .neq (.t 15) (.k (.v (.c (.int .i64 0))))), .s (.pick 17 (.t 13) (.k (.v (.c .tt))) (.t 16))]) (.cond (.t 17) (.seq (.reg [.s (.build 18 [.int .i64 0, .int .i64 0, .int .i64 0, .int .i64 0] []), .s (.store 4 (.t 4) (.t 18)), .s (.mv 5 (.k (.v (.c .ff))))]) (.ret)) (.skip))) (.seq (.reg [.s (.fa 19 (.t 3) 1), .s (.fa 20 (.t 19) 0), .s (.load 21 false 1 (.t 20)), .s (.build 22 [.int .i64 0, .int .i64 0, .int .i64 0, .int .i64 0] [(0, 1, (.t 21)), (1, 1, (.k (.v (.c (.int .i64 (-1)))))), (2, 1, (.k (.v (.c (.int .i64 (-1))))))]), .s (.alloc 6 [.int .i64 0, .int .i64 0, .int .i64 0, .int .i64 0]), .s (.store 4 (.t 6) (.t 22))]) (.seq (.reg [.s (.mv 23 (.t 0)), .s (.load 24 true 10 (.t 3)), .s (.call (some 25) 85 [(.t 23), (.t 24)]), .s (.alloc 7 [.nils .word, .int .i64 0, .ff, .int .i64 0, .int .i64 0, .int .i64 0, .int .i64 0, .nils .word, .nils .bool, .int .i64 0]), .s (.store 10 (.t 7) (.t 25))]) (.seq (.reg [.s (.fa 26 (.t 7) 9), .s (.load 27 false 1 (.t 26)), .s (.fa 28 (.t 6) 3), .s (.store 1 (.t 28) (.t 27))]) (.seq (.reg [.s (.mv 30 (.t 0)), .s (.fa 31 (.t 3) 1), .s (.load 32 true 6 (.t 31)), .s (.call (some 33) 89 [(.t 30), (.t 32)]), .s (.mv 29 (.t 33)), .s (.ext 34 (.t 29) 0), .s (.ext 35 (.t 29) 1), .s (.alloc 8 [.int .i64 0, .int .i64 0, .int .i64 0, .int .i64 0, .int .i64 0]), .s (.store 5 (.t 8) (.t 34)), .s (.mv 9 (.t 35))]) (.seq (.seq (.reg [.s (.fa 36 (.t 7) 9), .s (.load 37 false 1 (.t 36)), .s (.bin 38 .eql (.t 37) (.k (.v (.c (.int .i64 0)))))]) (.cond (.t 38) (.seq (.reg [.s (.load 39 true 5 (.t 8)), .s (.call (some 40) 90 [(.t 39)]), .s (.fa 41 (.t 6) 1), .s (.store 1 (.t 41) (.t 40))]) (.seq (.reg [.s (.fa 42 (.t 8) 0), .s (.load 43 false 1 (.t 42)), .s (.bin 44 .eql (.t 43) (.k (.v (.c (.int .i64 11)))))]) (.cond (.t 44) (.rgd [] [.s (.fa 45 (.t 3) 0), .s (.load 46 false 1 (.t 45)), .s (.fa 47 (.t 8) 2), .s (.load 48 false 1 (.t 47)), .s (.ia 49 .word (.t 46) (.t 48)), .s (.fa 50 (.t 49) 0), .s (.load 51 false 1 (.t 50)), .s (.fa 52 (.t 8) 4), .s (.load 53 false 1 (.t 52)), .s (.bin 54 .add (.t 51) (.t 53)), .s (.fa 55 (.t 6) 2), .s (.store 1 (.t 55) (.t 54))] (.tk 0 (.tk 1 (.tk 2 (.tk 3 (.tk 4 (.tk 5 (.tk 6 (.tk 7 (.tk 8 (.tk 9 (.tk 10 (.one 11 true (.done none)))))))))))))) (.skip)))) (.skip))) (.seq (.reg [.s (.load 56 true 4 (.t 6)), .s (.store 4 (.t 4) (.t 56)), .s (.mv 5 (.k (.v (.c .tt))))]) (.ret))))))))⟩
def c_spec_SeenOf : Fun := ⟨25, [], fun ts K => as2 ts fun t0 t1 => arC (pL .inst) t0 fun l => arG pStateT t1 fun s => chk (l.length ≤ 2147483647 ∧ LState s 2147483647) (K (.tup [.g ((seenOf l s).1.tc []), T1.c (.bool (seenOf l s).2)]) [])⟩
theorem run_spec_SeenOf (l : List (FT.Ty .inst)) (s : State) (hpre : l.length ≤ 2147483647 ∧ LState s 2147483647) : runK [c_spec_StateOk, c_spec_Step, c_spec_Fetch, c_spec_Sets] (0) [] pf_spec_SeenOf [tL false .inst l, tG (s.tc false [])] fun r o => r = .tup [.g ((seenOf l s).1.tc []), T1.c (.bool (seenOf l s).2)] ∧ o = [] := by
  obtain ⟨l1, l2⟩ := hpre
  conv => whnf
  repeat' (first | (refine sel_i (fun h => ?_) (fun h => ?_) <;> conv => whnf) | (refine chk_c ?_ ?_ <;> conv => whnf) | (refine And.intro ?_ rfl) | (refine And.intro ?_ ?_ <;> conv => whnf))
  all_goals (try simp only [etaKey, etaWord, etaInst, etaEff, etaMemory, etaState, bne_iff_ne, ne_eq, bne_eq_false_iff_eq, beq_iff_eq, beq_eq_false_iff_ne, Bool.not_eq_true', Bool.not_eq_false', decide_eq_true_eq, decide_eq_false_iff_not] at *)
  all_goals first
    | (refine ⟨?_⟩; assumption)
    | (rw [seenOf_no (by assumption)]; rfl)
    | (rw [seenOf_t (by assumption)]; rfl)
    | (refine ⟨?_⟩; exact ⟨l1, l2⟩)
    | (refine ⟨?_⟩; rw [stepS_tr (by assumption) (by assumption)] at *; have hx := fetchI_in (effE_0 (by assumption)).1; have hl := (stateOk_len (by assumption)).1; omega)
    | (rw [stepS_tr (by assumption) (by assumption)] at *; rw [seenOf_0 (by assumption) (by assumption), (effE_0 (by assumption)).2.1, (effE_0 (by assumption)).2.2]; simp only [*, if_true, if_false]; rfl)
    | (rw [stepS_tr (by assumption) (by assumption)] at *; rw [seenOf_0 (by assumption) (by assumption), (effE_t (by assumption)).1, (effE_t (by assumption)).2]; rfl)
    | trace_state
theorem ok_spec_SeenOf : FunOk Tryz.prog c_spec_SeenOf := funOk (E := [c_spec_StateOk, c_spec_Step, c_spec_Fetch, c_spec_Sets]) (envOk_cons ok_spec_StateOk (envOk_cons ok_spec_Step (envOk_cons ok_spec_Fetch (envOk_cons ok_spec_Sets (envOk_nil))))) mixd Tryz.func25 (pf := pf_spec_SeenOf) (by kernel_rfl) fun ts K h => by
  obtain ⟨t0, t1, e0, h⟩ := as2_out h
  subst e0
  obtain ⟨l, e1, hq⟩ := arC_out (rd_l .inst) h
  clear h
  subst e1
  have h := hq
  clear hq
  obtain ⟨s, e1, hq⟩ := arG_out rd_state h
  clear h
  subst e1
  have h := hq
  clear hq
  obtain ⟨hpre, h⟩ := chk_o h
  exact ⟨_, _, h, Nat.le_of_ble_eq_true (show Nat.ble 2 Tryz.f25.ntmps = true by kernel_rfl), _, run_spec_SeenOf l s hpre⟩

def setSide (t : Two) (s : State) (who : Int) : Two :=
  if who = 1 then ⟨s.mem, t.a, ⟨s.regs, s.pc, s.trap⟩⟩ else ⟨s.mem, ⟨s.regs, s.pc, s.trap⟩, t.b⟩
def twoStep (a b : List Inst) (t : Two) (who : Int) : Two × Bool :=
  if twoOk t = false ∨ inR who 0 1 = false then (t, false) else (setSide t (stepS (if who = 1 then b else a) (sideState t who)) who, true)
theorem twoStep_no {a b : List Inst} {t : Two} {who : Int} (h : twoOk t = false) : twoStep a b t who = (t, false) := if_pos (.inl h)
theorem twoStep_w {a b : List Inst} {t : Two} {who : Int} (h : inR who 0 1 = false) : twoStep a b t who = (t, false) := if_pos (.inr h)
theorem twoStep_ok {a b : List Inst} {t : Two} {who : Int} (h : twoOk t = true) (h2 : inR who 0 1 = true) : twoStep a b t who = (setSide t (stepS (if who = 1 then b else a) (sideState t who)) who, true) :=
  if_neg (by rw [h, h2]; simp)
theorem twoStep_1 {a b : List Inst} {t : Two} {who : Int} (h : twoOk t = true) (h2 : inR who 0 1 = true) (h3 : who = 1) : twoStep a b t who = (⟨(stepS b (sideState t who)).mem, t.a, ⟨(stepS b (sideState t who)).regs, (stepS b (sideState t who)).pc, (stepS b (sideState t who)).trap⟩⟩, true) := by
  rw [twoStep_ok h h2, if_pos h3]; unfold setSide; rw [if_pos h3]
theorem twoStep_0 {a b : List Inst} {t : Two} {who : Int} (h : twoOk t = true) (h2 : inR who 0 1 = true) (h3 : ¬ who = 1) : twoStep a b t who = (⟨(stepS a (sideState t who)).mem, ⟨(stepS a (sideState t who)).regs, (stepS a (sideState t who)).pc, (stepS a (sideState t who)).trap⟩, t.b⟩, true) := by
  rw [twoStep_ok h h2, if_neg h3]; unfold setSide; rw [if_neg h3]

def pf_spec_l22Side : PF := ⟨[.c 2 true 8], .seq (.reg [.s (.box 1 (.t 0)), .s (.alloc 2 [.nils .word, .int .i64 0, .ff, .int .i64 0, .int .i64 0, .int .i64 0, .int .i64 0, .int .i64 0])]) (.seq (.rgd [] [.s (.bs 3 .word []), .s (.fa 4 (.t 1) 0), .s (.load 5 false 1 (.t 4)), .s (.app 6 .word (.t 3) (.t 5)), .s (.fa 7 (.t 1) 1), .s (.load 8 true 6 (.t 7)), .s (.fa 9 (.t 1) 7), .s (.load 10 false 1 (.t 9)), .s (.build 11 [.nils .word, .int .i64 0, .ff, .int .i64 0, .int .i64 0, .int .i64 0, .int .i64 0, .int .i64 0] [(0, 1, (.t 6)), (1, 6, (.t 8)), (7, 1, (.t 10))]), .s (.store 8 (.t 2) (.t 11))] (.tk 1 (.tk 2 (.tk 4 (.tk 5 (.tk 6 (.tk 7 (.one 0 false (.one 3 false (.tk 8 (.one 9 true (.done none)))))))))))) (.ret))⟩
def c_spec_l22Side : Fun := ⟨172, [], fun ts K => as1 ts fun t0 => arG pSideT t0 fun s => chk (s.regs.length ≤ 2147483647) (K (tG (s.tc true [])) [])⟩
theorem run_spec_l22Side (s : Side) (hpre : s.regs.length ≤ 2147483647) : runK [] (0) [] pf_spec_l22Side [tG (s.tc false [])] fun r o => r = tG (s.tc true []) ∧ o = [] := by
  conv => whnf
  repeat' (first | (refine chk_c ?_ ?_ <;> conv => whnf) | (refine And.intro ?_ ?_ <;> conv => whnf))
  all_goals first
    | (refine ⟨?_⟩; omega)
    | (refine ⟨?_⟩; simp; done)
    | (refine ⟨?_⟩; simp [LMem, LTwo] at *; omega)
    | rfl
    | exact True.intro
    | exact ⟨rfl, rfl⟩
theorem ok_spec_l22Side : FunOk Tryz.prog c_spec_l22Side := funOk (E := []) (envOk_nil) mixd Tryz.func172 (pf := pf_spec_l22Side) (by kernel_rfl) fun ts K h => by
  obtain ⟨t0, e0, h⟩ := as1_out h
  subst e0
  obtain ⟨s, e1, hq⟩ := arG_out rd_side h
  clear h
  subst e1
  have h := hq
  clear hq
  obtain ⟨hpre, h⟩ := chk_o h
  exact ⟨_, _, h, Nat.le_of_ble_eq_true (show Nat.ble 1 Tryz.f172.ntmps = true by kernel_rfl), _, run_spec_l22Side s hpre⟩

def pf_spec_l22Copy : PF := ⟨[.c 2 true 18], .seq (.reg [.s (.box 1 (.t 0)), .s (.alloc 2 [.nils .word, .nils .bool, .nils .word, .int .i64 0, .ff, .int .i64 0, .int .i64 0, .int .i64 0, .int .i64 0, .int .i64 0, .nils .word, .int .i64 0, .ff, .int .i64 0, .int .i64 0, .int .i64 0, .int .i64 0, .int .i64 0])]) (.seq (.rgd [] [.s (.fa 3 (.t 1) 0), .s (.load 4 true 2 (.t 3)), .s (.call (some 5) 107 [(.t 4)]), .s (.fa 6 (.t 1) 2), .s (.load 7 true 8 (.t 6)), .s (.call (some 8) 172 [(.t 7)]), .s (.fa 9 (.t 1) 10), .s (.load 10 true 8 (.t 9)), .s (.call (some 11) 172 [(.t 10)]), .s (.build 12 [.nils .word, .nils .bool, .nils .word, .int .i64 0, .ff, .int .i64 0, .int .i64 0, .int .i64 0, .int .i64 0, .int .i64 0, .nils .word, .int .i64 0, .ff, .int .i64 0, .int .i64 0, .int .i64 0, .int .i64 0, .int .i64 0] [(0, 2, (.t 5)), (2, 8, (.t 8)), (10, 8, (.t 11))]), .s (.store 18 (.t 2) (.t 12))] (.tk 0 (.tk 1 (.tk 3 (.tk 4 (.tk 6 (.tk 7 (.one 2 false (.one 5 false (.one 8 true (.tk 9 (.one 10 true (.done none))))))))))))) (.ret))⟩
def c_spec_l22Copy : Fun := ⟨101, [], fun ts K => as1 ts fun t0 => arG pTwoT t0 fun t => chk (LTwo t 2147483647) (K (tG (t.tc true [])) [])⟩
theorem run_spec_l22Copy (t : Two) (hpre : LTwo t 2147483647) : runK [c_spec_l8Copy, c_spec_l22Side] (0) [] pf_spec_l22Copy [tG (t.tc false [])] fun r o => r = tG (t.tc true []) ∧ o = [] := by
  obtain ⟨⟨l1, l4⟩, l2, l3⟩ := hpre
  conv => whnf
  repeat' (first | (refine chk_c ?_ ?_ <;> conv => whnf) | (refine And.intro ?_ ?_ <;> conv => whnf))
  all_goals first
    | (refine ⟨?_⟩; omega)
    | (refine ⟨?_⟩; simp; done)
    | (refine ⟨?_⟩; simp [LMem, LTwo] at *; omega)
    | rfl
    | exact True.intro
    | exact ⟨rfl, rfl⟩
theorem ok_spec_l22Copy : FunOk Tryz.prog c_spec_l22Copy := funOk (E := [c_spec_l8Copy, c_spec_l22Side]) (envOk_cons ok_spec_l8Copy (envOk_cons ok_spec_l22Side (envOk_nil))) mixd Tryz.func101 (pf := pf_spec_l22Copy) (by kernel_rfl) fun ts K h => by
  obtain ⟨t0, e0, h⟩ := as1_out h
  subst e0
  obtain ⟨t, e1, hq⟩ := arG_out rd_two h
  clear h
  subst e1
  have h := hq
  clear hq
  obtain ⟨hpre, h⟩ := chk_o h
  exact ⟨_, _, h, Nat.le_of_ble_eq_true (show Nat.ble 1 Tryz.f101.ntmps = true by kernel_rfl), _, run_spec_l22Copy t hpre⟩

def pf_impl_cloneTwo : PF := ⟨[.c 2 true 18], .seq (.reg [.s (.box 1 (.t 0)), .s (.alloc 2 [.nils .word, .nils .bool, .nils .word, .int .i64 0, .ff, .int .i64 0, .int .i64 0, .int .i64 0, .int .i64 0, .int .i64 0, .nils .word, .int .i64 0, .ff, .int .i64 0, .int .i64 0, .int .i64 0, .int .i64 0, .int .i64 0])]) (.seq (.reg [.s (.fa 3 (.t 1) 0), .s (.load 4 true 2 (.t 3)), .s (.call (some 5) 106 [(.t 4)]), .s (.fa 6 (.t 1) 0), .s (.store 2 (.t 6) (.t 5))]) (.seq (.rgd [] [.s (.fa 7 (.t 1) 2), .s (.fa 8 (.t 7) 0), .s (.load 9 false 1 (.t 8)), .s (.call (some 10) 105 [(.t 9)]), .s (.fa 11 (.t 1) 10), .s (.fa 12 (.t 11) 0), .s (.load 13 false 1 (.t 12)), .s (.call (some 14) 105 [(.t 13)]), .s (.fa 15 (.t 1) 2), .s (.fa 16 (.t 15) 0), .s (.store 1 (.t 16) (.t 10)), .s (.fa 17 (.t 1) 10), .s (.fa 18 (.t 17) 0), .s (.store 1 (.t 18) (.t 14))] (.tk 0 (.tk 1 (.tk 2 (.tk 4 (.tk 5 (.tk 6 (.one 3 false (.tk 8 (.tk 9 (.one 7 true (.one 10 true (.tk 11 (.tk 12 (.one 13 true (.done none)))))))))))))))) (.seq (.reg [.s (.load 19 true 18 (.t 1)), .s (.store 18 (.t 2) (.t 19))]) (.ret))))⟩
def c_impl_cloneTwo : Fun := ⟨100, [], fun ts K => as1 ts fun t0 => arG pTwoT t0 fun t => chk (LTwo t 2147483647) (K (tG (t.tc true [])) [])⟩
theorem run_impl_cloneTwo (t : Two) (hpre : LTwo t 2147483647) : runK [c_slices_Clone_Word, c_impl_cloneMemory] (0) [] pf_impl_cloneTwo [tG (t.tc false [])] fun r o => r = tG (t.tc true []) ∧ o = [] := by
  obtain ⟨⟨l1, l4⟩, l2, l3⟩ := hpre
  conv => whnf
  repeat' (first | (refine chk_c ?_ ?_ <;> conv => whnf) | (refine And.intro ?_ ?_ <;> conv => whnf))
  all_goals first
    | (refine ⟨?_⟩; omega)
    | (refine ⟨?_⟩; simp; done)
    | (refine ⟨?_⟩; simp [LMem, LTwo] at *; omega)
    | rfl
    | exact True.intro
    | exact ⟨rfl, rfl⟩
theorem ok_impl_cloneTwo : FunOk Tryz.prog c_impl_cloneTwo := funOk (E := [c_slices_Clone_Word, c_impl_cloneMemory]) (envOk_cons ok_slices_Clone_Word (envOk_cons ok_impl_cloneMemory (envOk_nil))) mixd Tryz.func100 (pf := pf_impl_cloneTwo) (by kernel_rfl) fun ts K h => by
  obtain ⟨t0, e0, h⟩ := as1_out h
  subst e0
  obtain ⟨t, e1, hq⟩ := arG_out rd_two h
  clear h
  subst e1
  have h := hq
  clear hq
  obtain ⟨hpre, h⟩ := chk_o h
  exact ⟨_, _, h, Nat.le_of_ble_eq_true (show Nat.ble 1 Tryz.f100.ntmps = true by kernel_rfl), _, run_impl_cloneTwo t hpre⟩

def pf_spec_TwoStep : PF := ⟨[.c 8 true 18, .t 9], .seq (.reg [.s (.box 6 (.t 2)), .s (.alloc 8 [.nils .word, .nils .bool, .nils .word, .int .i64 0, .ff, .int .i64 0, .int .i64 0, .int .i64 0, .int .i64 0, .int .i64 0, .nils .word, .int .i64 0, .ff, .int .i64 0, .int .i64 0, .int .i64 0, .int .i64 0, .int .i64 0]), .s (.mv 9 (.k (.v (.c .ff))))]) (.seq (.reg [.s (.load 14 true 18 (.t 6)), .s (.call (some 15) 101 [(.t 14)]), .s (.alloc 10 [.nils .word, .nils .bool, .nils .word, .int .i64 0, .ff, .int .i64 0, .int .i64 0, .int .i64 0, .int .i64 0, .int .i64 0, .nils .word, .int .i64 0, .ff, .int .i64 0, .int .i64 0, .int .i64 0, .int .i64 0, .int .i64 0]), .s (.store 18 (.t 10) (.t 15))]) (.seq (.seq (.reg [.s (.load 16 true 18 (.t 6)), .s (.call (some 17) 45 [(.t 16)]), .s (.bnot 18 (.t 17)), .s (.mv 19 (.t 18)), .g 19 false (some 20) (.mv 20 (.t 3)), .g 19 false (some 21) (.call (some 21) 102 [(.t 20), (.k (.v (.c (.int .i64 0)))), (.k (.v (.c (.int .i64 1))))]), .g 19 false (some 22) (.bnot 22 (.t 21)), .s (.pick 23 (.t 19) (.k (.v (.c .tt))) (.t 22))]) (.cond (.t 23) (.seq (.reg [.s (.load 24 true 18 (.t 10)), .s (.store 18 (.t 8) (.t 24)), .s (.mv 9 (.k (.v (.c .ff))))]) (.ret)) (.skip))) (.seq (.reg [.s (.mv 25 (.t 0)), .s (.mv 11 (.t 25))]) (.seq (.seq (.reg [.s (.mv 26 (.t 3)), .s (.bin 27 .eql (.t 26) (.k (.v (.c (.int .i64 1)))))]) (.cond (.t 27) (.reg [.s (.mv 28 (.t 1)), .s (.mv 11 (.t 28))]) (.skip))) (.seq (.reg [.s (.mv 29 (.t 11)), .s (.load 30 true 18 (.t 6)), .s (.mv 31 (.t 3)), .s (.call (some 32) 43 [(.t 30), (.t 31)]), .s (.call (some 33) 85 [(.t 29), (.t 32)]), .s (.alloc 12 [.nils .word, .int .i64 0, .ff, .int .i64 0, .int .i64 0, .int .i64 0, .int .i64 0, .nils .word, .nils .bool, .int .i64 0]), .s (.store 10 (.t 12) (.t 33))]) (.seq (.reg [.s (.fa 34 (.t 12) 7), .s (.load 35 true 2 (.t 34)), .s (.fa 36 (.t 10) 0), .s (.store 2 (.t 36) (.t 35))]) (.seq (.reg [.s (.fa 37 (.t 12) 0), .s (.load 38 false 1 (.t 37)), .s (.fa 39 (.t 12) 1), .s (.load 40 true 6 (.t 39)), .s (.fa 41 (.t 12) 9), .s (.load 42 false 1 (.t 41)), .s (.build 43 [.nils .word, .int .i64 0, .ff, .int .i64 0, .int .i64 0, .int .i64 0, .int .i64 0, .int .i64 0] [(0, 1, (.t 38)), (1, 6, (.t 40)), (7, 1, (.t 42))]), .s (.alloc 13 [.nils .word, .int .i64 0, .ff, .int .i64 0, .int .i64 0, .int .i64 0, .int .i64 0, .int .i64 0]), .s (.store 8 (.t 13) (.t 43))]) (.seq (.seq (.reg [.s (.mv 44 (.t 3)), .s (.bin 45 .eql (.t 44) (.k (.v (.c (.int .i64 1)))))]) (.cond (.t 45) (.reg [.s (.load 46 true 8 (.t 13)), .s (.fa 47 (.t 10) 10), .s (.store 8 (.t 47) (.t 46))]) (.reg [.s (.load 48 true 8 (.t 13)), .s (.fa 49 (.t 10) 2), .s (.store 8 (.t 49) (.t 48))]))) (.seq (.reg [.s (.load 50 true 18 (.t 10)), .s (.store 18 (.t 8) (.t 50)), .s (.mv 9 (.k (.v (.c .tt))))]) (.ret))))))))))⟩
def c_spec_TwoStep : Fun := ⟨34, [], fun ts K => as4 ts fun t0 t1 t2 t3 => arC (pL .inst) t0 fun a => arC (pL .inst) t1 fun b => arG pTwoT t2 fun t => arC (pI .i64) t3 fun who => chk (a.length ≤ 2147483647 ∧ b.length ≤ 2147483647 ∧ LTwo t 2147483647) (K (.tup [.g ((twoStep a b t who).1.tc true []), T1.c (.bool (twoStep a b t who).2)]) [])⟩
theorem run_spec_TwoStep (a : List (FT.Ty .inst)) (b : List (FT.Ty .inst)) (t : Two) (who : Int) (hpre : a.length ≤ 2147483647 ∧ b.length ≤ 2147483647 ∧ LTwo t 2147483647) : runK [c_spec_SideState, c_spec_TwoOk, c_spec_Step, c_spec_l22Copy, c_spec_l1In] (0) [] pf_spec_TwoStep [tL false .inst a, tL false .inst b, tG (t.tc false []), tI .i64 who] fun r o => r = .tup [.g ((twoStep a b t who).1.tc true []), T1.c (.bool (twoStep a b t who).2)] ∧ o = [] := by
  obtain ⟨l1, l2, l3⟩ := hpre
  have l4 : LState (sideState t who) 2147483647 := sideState_len (who := who) l3
  conv => whnf
  repeat' (first | (refine sel_i (fun h => ?_) (fun h => ?_) <;> conv => whnf) | (refine chk_c ?_ ?_ <;> conv => whnf) | (refine And.intro ?_ rfl) | (refine And.intro ?_ ?_ <;> conv => whnf))
  all_goals (try simp only [etaKey, etaWord, etaMemory, etaState, etaSide, etaTwo, beq_iff_eq, beq_eq_false_iff_ne, ne_eq, Bool.not_eq_true', Bool.not_eq_false', decide_eq_true_eq, decide_eq_false_iff_not] at *)
  all_goals first
    | (refine ⟨?_⟩; assumption)
    | (refine ⟨?_⟩; exact ⟨by assumption, by assumption⟩)
    | (rw [twoStep_no (by assumption)]; rfl)
    | (rw [twoStep_w (by assumption)]; rfl)
    | (rw [twoStep_1 (by assumption) (by assumption) (by assumption)]; rfl)
    | (rw [twoStep_0 (by assumption) (by assumption) (by assumption)]; rfl)
    | contradiction
    | trace_state
theorem ok_spec_TwoStep : FunOk Tryz.prog c_spec_TwoStep := funOk (E := [c_spec_SideState, c_spec_TwoOk, c_spec_Step, c_spec_l22Copy, c_spec_l1In]) (envOk_cons ok_spec_SideState (envOk_cons ok_spec_TwoOk (envOk_cons ok_spec_Step (envOk_cons ok_spec_l22Copy (envOk_cons ok_spec_l1In (envOk_nil)))))) mixd Tryz.func34 (pf := pf_spec_TwoStep) (by kernel_rfl) fun ts K h => by
  obtain ⟨t0, t1, t2, t3, e0, h⟩ := as4_out h
  subst e0
  obtain ⟨a, e1, hq⟩ := arC_out (rd_l .inst) h
  clear h
  subst e1
  have h := hq
  clear hq
  obtain ⟨b, e1, hq⟩ := arC_out (rd_l .inst) h
  clear h
  subst e1
  have h := hq
  clear hq
  obtain ⟨t, e1, hq⟩ := arG_out rd_two h
  clear h
  subst e1
  have h := hq
  clear hq
  obtain ⟨who, e1, hq⟩ := arC_out (rd_int .i64) h
  clear h
  subst e1
  have h := hq
  clear hq
  obtain ⟨hpre, h⟩ := chk_o h
  exact ⟨_, _, h, Nat.le_of_ble_eq_true (show Nat.ble 4 Tryz.f34.ntmps = true by kernel_rfl), _, run_spec_TwoStep a b t who hpre⟩

def pf_impl_TwoStep : PF := ⟨[.c 8 true 18, .t 9], .seq (.reg [.s (.box 6 (.t 2)), .s (.alloc 8 [.nils .word, .nils .bool, .nils .word, .int .i64 0, .ff, .int .i64 0, .int .i64 0, .int .i64 0, .int .i64 0, .int .i64 0, .nils .word, .int .i64 0, .ff, .int .i64 0, .int .i64 0, .int .i64 0, .int .i64 0, .int .i64 0]), .s (.mv 9 (.k (.v (.c .ff))))]) (.seq (.reg [.s (.load 14 true 18 (.t 6)), .s (.call (some 15) 100 [(.t 14)]), .s (.alloc 10 [.nils .word, .nils .bool, .nils .word, .int .i64 0, .ff, .int .i64 0, .int .i64 0, .int .i64 0, .int .i64 0, .int .i64 0, .nils .word, .int .i64 0, .ff, .int .i64 0, .int .i64 0, .int .i64 0, .int .i64 0, .int .i64 0]), .s (.store 18 (.t 10) (.t 15))]) (.seq (.seq (.reg [.s (.load 16 true 18 (.t 6)), .s (.call (some 17) 44 [(.t 16)]), .s (.bnot 18 (.t 17)), .s (.mv 19 (.t 18)), .g 19 false (some 20) (.mv 20 (.t 3)), .g 19 false (some 21) (.call (some 21) 71 [(.t 20), (.k (.v (.c (.int .i64 0)))), (.k (.v (.c (.int .i64 1))))]), .g 19 false (some 22) (.bnot 22 (.t 21)), .s (.pick 23 (.t 19) (.k (.v (.c .tt))) (.t 22))]) (.cond (.t 23) (.seq (.reg [.s (.load 24 true 18 (.t 10)), .s (.store 18 (.t 8) (.t 24)), .s (.mv 9 (.k (.v (.c .ff))))]) (.ret)) (.skip))) (.seq (.reg [.s (.mv 25 (.t 0)), .s (.fa 26 (.t 10) 2), .s (.mv 11 (.t 25)), .s (.mv 12 (.t 26))]) (.seq (.seq (.reg [.s (.mv 27 (.t 3)), .s (.bin 28 .eql (.t 27) (.k (.v (.c (.int .i64 1)))))]) (.cond (.t 28) (.reg [.s (.mv 29 (.t 1)), .s (.fa 30 (.t 10) 10), .s (.mv 11 (.t 29)), .s (.mv 12 (.t 30))]) (.skip))) (.seq (.reg [.s (.mv 31 (.t 11)), .s (.load 32 true 18 (.t 6)), .s (.mv 33 (.t 3)), .s (.call (some 34) 42 [(.t 32), (.t 33)]), .s (.call (some 35) 16 [(.t 31), (.t 34)]), .s (.alloc 13 [.nils .word, .int .i64 0, .ff, .int .i64 0, .int .i64 0, .int .i64 0, .int .i64 0, .nils .word, .nils .bool, .int .i64 0]), .s (.store 10 (.t 13) (.t 35))]) (.seq (.reg [.s (.mv 36 (.t 12)), .s (.fa 37 (.t 13) 0), .s (.load 38 false 1 (.t 37)), .s (.fa 39 (.t 13) 1), .s (.load 40 true 6 (.t 39)), .s (.fa 41 (.t 13) 9), .s (.load 42 false 1 (.t 41)), .s (.build 43 [.nils .word, .int .i64 0, .ff, .int .i64 0, .int .i64 0, .int .i64 0, .int .i64 0, .int .i64 0] [(0, 1, (.t 38)), (1, 6, (.t 40)), (7, 1, (.t 42))]), .s (.nchk 44 (.t 36)), .s (.store 8 (.t 44) (.t 43))]) (.seq (.reg [.s (.fa 45 (.t 13) 7), .s (.load 46 true 2 (.t 45)), .s (.fa 47 (.t 10) 0), .s (.store 2 (.t 47) (.t 46))]) (.seq (.reg [.s (.load 48 true 18 (.t 10)), .s (.store 18 (.t 8) (.t 48)), .s (.mv 9 (.k (.v (.c .tt))))]) (.ret)))))))))⟩
def c_impl_TwoStep : Fun := ⟨33, [], fun ts K => as4 ts fun t0 t1 t2 t3 => arC (pL .inst) t0 fun a => arC (pL .inst) t1 fun b => arG pTwoT t2 fun t => arC (pI .i64) t3 fun who => chk (a.length ≤ 2147483647 ∧ b.length ≤ 2147483647 ∧ LTwo t 2147483647) (K (.tup [.g ((twoStep a b t who).1.tc true []), T1.c (.bool (twoStep a b t who).2)]) [])⟩
theorem run_impl_TwoStep (a : List (FT.Ty .inst)) (b : List (FT.Ty .inst)) (t : Two) (who : Int) (hpre : a.length ≤ 2147483647 ∧ b.length ≤ 2147483647 ∧ LTwo t 2147483647) : runK [c_impl_Step, c_impl_SideState, c_impl_TwoOk, c_impl_in, c_impl_cloneTwo] (0) [] pf_impl_TwoStep [tL false .inst a, tL false .inst b, tG (t.tc false []), tI .i64 who] fun r o => r = .tup [.g ((twoStep a b t who).1.tc true []), T1.c (.bool (twoStep a b t who).2)] ∧ o = [] := by
  obtain ⟨l1, l2, l3⟩ := hpre
  have l4 : LState (sideState t who) 2147483647 := sideState_len (who := who) l3
  conv => whnf
  repeat' (first | (refine sel_i (fun h => ?_) (fun h => ?_) <;> conv => whnf) | (refine chk_c ?_ ?_ <;> conv => whnf) | (refine And.intro ?_ rfl) | (refine And.intro ?_ ?_ <;> conv => whnf))
  all_goals (try simp only [etaKey, etaWord, etaMemory, etaState, etaSide, etaTwo, beq_iff_eq, beq_eq_false_iff_ne, ne_eq, Bool.not_eq_true', Bool.not_eq_false', decide_eq_true_eq, decide_eq_false_iff_not] at *)
  all_goals first
    | (refine ⟨?_⟩; assumption)
    | (refine ⟨?_⟩; exact ⟨by assumption, by assumption⟩)
    | (rw [twoStep_no (by assumption)]; rfl)
    | (rw [twoStep_w (by assumption)]; rfl)
    | (rw [twoStep_1 (by assumption) (by assumption) (by assumption)]; rfl)
    | (rw [twoStep_0 (by assumption) (by assumption) (by assumption)]; rfl)
    | contradiction
    | trace_state
theorem ok_impl_TwoStep : FunOk Tryz.prog c_impl_TwoStep := funOk (E := [c_impl_Step, c_impl_SideState, c_impl_TwoOk, c_impl_in, c_impl_cloneTwo]) (envOk_cons ok_impl_Step (envOk_cons ok_impl_SideState (envOk_cons ok_impl_TwoOk (envOk_cons ok_impl_in (envOk_cons ok_impl_cloneTwo (envOk_nil)))))) mixd Tryz.func33 (pf := pf_impl_TwoStep) (by kernel_rfl) fun ts K h => by
  obtain ⟨t0, t1, t2, t3, e0, h⟩ := as4_out h
  subst e0
  obtain ⟨a, e1, hq⟩ := arC_out (rd_l .inst) h
  clear h
  subst e1
  have h := hq
  clear hq
  obtain ⟨b, e1, hq⟩ := arC_out (rd_l .inst) h
  clear h
  subst e1
  have h := hq
  clear hq
  obtain ⟨t, e1, hq⟩ := arG_out rd_two h
  clear h
  subst e1
  have h := hq
  clear hq
  obtain ⟨who, e1, hq⟩ := arC_out (rd_int .i64) h
  clear h
  subst e1
  have h := hq
  clear hq
  obtain ⟨hpre, h⟩ := chk_o h
  exact ⟨_, _, h, Nat.le_of_ble_eq_true (show Nat.ble 4 Tryz.f33.ntmps = true by kernel_rfl), _, run_impl_TwoStep a b t who hpre⟩

theorem setSide_len {t : Two} {s : State} {who : Int} {n : Nat} (h : LTwo t n) (hs : LState s n) : LTwo (setSide t s who) n := by
  unfold setSide; split
  · exact ⟨hs.2, h.2.1, hs.1⟩
  · exact ⟨hs.2, hs.1, h.2.2⟩
theorem putE_len {s : State} {e : Eff} {n : Nat} (h : LState s n) : LState (putE s e) n := by
  obtain ⟨h1, h2, h3⟩ := h
  unfold putE
  refine ⟨?_, ?_, ?_⟩
  · dsimp only; split
    · rw [List.length_set]; exact h1
    · exact h1
  · dsimp only; split
    · rw [List.length_set]; exact h2
    · exact h2
  · dsimp only; split
    · rw [List.length_set]; exact h3
    · exact h3
theorem stepS_len {l : List Inst} {s : State} {n : Nat} (h : LState s n) : LState (stepS l s) n := by
  unfold stepS
  split
  · exact ⟨Nat.zero_le _, Nat.zero_le _, Nat.zero_le _⟩
  · split
    · exact h
    · split
      · exact h
      · exact putE_len h
theorem twoStep_len {a b : List Inst} {t : Two} {who : Int} {n : Nat} (h : LTwo t n) : LTwo (twoStep a b t who).1 n := by
  unfold twoStep
  split
  · exact h
  · exact setSide_len h (stepS_len (sideState_len h))
theorem etaMTwo (m : Two) (k : Int) : (⟨(markTwo m k).mem, ⟨(markTwo m k).a.regs, m.a.pc, m.a.trap⟩, ⟨(markTwo m k).b.regs, m.b.pc, m.b.trap⟩⟩ : Two) = markTwo m k := rfl

def twoRunGo (a b : List Inst) : List Int → Two → Two
  | [], t => t
  | w :: ws, t => twoRunGo a b ws (twoStep a b t w).1
def twoRun (a b : List Inst) (t : Two) (o : List Int) : Two := if 600 < o.length then t else twoRunGo a b o t
theorem twoRunGo_len {a b : List Inst} {n : Nat} : ∀ {o : List Int} {t : Two}, LTwo t n → LTwo (twoRunGo a b o t) n
  | [], _, h => h
  | _ :: ws, _, h => twoRunGo_len (o := ws) (twoStep_len h)
theorem twoRun_len {a b : List Inst} {o : List Int} {t : Two} {n : Nat} (h : LTwo t n) : LTwo (twoRun a b t o) n := by
  unfold twoRun; split
  · exact h
  · exact twoRunGo_len h
theorem twoRunGo_step {a b : List Inst} {o : List Int} {t : Two} {i : Nat} (h : i < o.length) : twoRunGo a b (o.drop i) t = twoRunGo a b (o.drop (i + 1)) (twoStep a b t (o.getD i 0)).1 := by
  rw [List.drop_eq_getElem_cons h, List.getD_eq_getElem?_getD, List.getElem?_eq_getElem h]; rfl
theorem twoRun_end {a b : List Inst} {o : List Int} {t v : Two} {i : Nat} (h : ¬ (i : Int) < o.length) (hx : twoRunGo a b (o.drop i) v = twoRun a b t o) : twoRun a b t o = v := by
  rw [← hx, List.drop_eq_nil_of_le (by omega)]; rfl
theorem twoRun_big {a b : List Inst} {o : List Int} {t : Two} (h : 600 < o.length) : twoRun a b t o = t := if_pos h

def lb_spec_TwoRun_0 : PC := .seq (.seq (.reg [.s (.mv 13 (.t 10)), .s (.mv 14 (.t 3)), .s (.len 15 false (.t 14)), .s (.bin 16 .lss (.t 13) (.t 15)), .s (.mv 17 (.t 16)), .g 17 true (some 18) (.mv 18 (.t 3)), .g 17 true (some 19) (.len 19 false (.t 18)), .g 17 true (some 20) (.bin 20 .leq (.t 19) (.k (.v (.c (.int .i64 600))))), .s (.pick 21 (.t 17) (.t 20) (.k (.v (.c .ff))))]) (.cond (.t 21) (.skip) (.exit 0))) (.seq (.blk 1 (.rgd [] [.s (.mv 25 (.t 0)), .s (.mv 26 (.t 1)), .s (.load 27 true 18 (.t 9)), .s (.mv 28 (.t 3)), .s (.mv 29 (.t 10)), .s (.ia 30 (.int .i64) (.t 28) (.t 29)), .s (.load 31 false 1 (.t 30)), .s (.call (some 32) 34 [(.t 25), (.t 26), (.t 27), (.t 31)]), .s (.mv 24 (.t 32)), .s (.ext 33 (.t 24) 0), .s (.ext 34 (.t 24) 1), .s (.store 18 (.t 9) (.t 33))] (.tk 0 (.tk 1 (.tk 2 (.tk 3 (.tk 4 (.tk 5 (.tk 6 (.one 7 true (.tk 8 (.tk 9 (.tk 10 (.one 11 true (.done none))))))))))))))) (.reg [.s (.mv 22 (.t 10)), .s (.bin 23 .add (.t 22) (.k (.v (.c (.int .i64 1))))), .s (.mv 10 (.t 23))]))
def pf_spec_TwoRun : PF := ⟨[.c 8 true 18], .seq (.reg [.s (.box 6 (.t 2)), .s (.alloc 8 [.nils .word, .nils .bool, .nils .word, .int .i64 0, .ff, .int .i64 0, .int .i64 0, .int .i64 0, .int .i64 0, .int .i64 0, .nils .word, .int .i64 0, .ff, .int .i64 0, .int .i64 0, .int .i64 0, .int .i64 0, .int .i64 0])]) (.seq (.reg [.s (.load 11 true 18 (.t 6)), .s (.call (some 12) 101 [(.t 11)]), .s (.alloc 9 [.nils .word, .nils .bool, .nils .word, .int .i64 0, .ff, .int .i64 0, .int .i64 0, .int .i64 0, .int .i64 0, .int .i64 0, .nils .word, .int .i64 0, .ff, .int .i64 0, .int .i64 0, .int .i64 0, .int .i64 0, .int .i64 0]), .s (.store 18 (.t 9) (.t 12))]) (.seq (.seq (.reg [.s (.mv 10 (.k (.v (.c (.int .i64 0)))))]) (.blk 0 (.loop [0, 1, 3, 8, 9, 10] lb_spec_TwoRun_0))) (.seq (.reg [.s (.load 35 true 18 (.t 9)), .s (.store 18 (.t 8) (.t 35))]) (.ret))))⟩
def c_spec_TwoRun : Fun := ⟨40, [], fun ts K => as4 ts fun t0 t1 t2 t3 => arC (pL .inst) t0 fun a => arC (pL .inst) t1 fun b => arG pTwoT t2 fun t => arC (pL (.int .i64)) t3 fun od => chk (a.length ≤ 2147483647 ∧ b.length ≤ 2147483647 ∧ LTwo t 2147483647 ∧ od.length ≤ 2147483647) (K (tG ((twoRun a b t od).tc true [])) [])⟩
theorem run_spec_TwoRun (a : List (FT.Ty .inst)) (b : List (FT.Ty .inst)) (t : Two) (od : List (FT.Ty (.int .i64))) (hpre : a.length ≤ 2147483647 ∧ b.length ≤ 2147483647 ∧ LTwo t 2147483647 ∧ od.length ≤ 2147483647) : runK [c_spec_TwoStep, c_spec_l22Copy] (od.length + 1) [] pf_spec_TwoRun [tL false .inst a, tL false .inst b, tG (t.tc false []), tL false (.int .i64) od] fun r o => r = tG ((twoRun a b t od).tc true []) ∧ o = [] := by
  obtain ⟨l1, l2, l3, l4⟩ := hpre
  conv => whnf
  refine chk_i l3 ?_
  conv => whnf
  refine loop (α := Nat × Two) (fun q => ⟨[(0, .v (.c (.sl false .inst 0))), (1, .v (.c (.sl false .inst 1))), (3, .v (.c (.sl false (.int .i64) 2))), (8, .v (.c (.ptr 3 0))), (9, .v (.c (.ptr 4 0))), (10, .v (.c (.int .i64 (q.1 : Int))))],
        [(8, some (.flat true .word none q.2.b.regs)), (7, some (.flat true .word none q.2.a.regs)), (6, some (.flat true .bool none q.2.mem.gone)), (5, some (.flat true .word none q.2.mem.words)), (4, some (.box true [.sl false .word 5, .sl false .bool 6, .sl false .word 7, .int .i64 q.2.a.pc.n, .bool q.2.a.pc.is, .int .i64 q.2.a.pc.key.base, .int .i64 q.2.a.pc.key.top, .int .i64 q.2.a.pc.key.perms, .int .i64 q.2.a.pc.key.sealed, .int .i64 q.2.a.trap, .sl false .word 8, .int .i64 q.2.b.pc.n, .bool q.2.b.pc.is, .int .i64 q.2.b.pc.key.base, .int .i64 q.2.b.pc.key.top, .int .i64 q.2.b.pc.key.perms, .int .i64 q.2.b.pc.key.sealed, .int .i64 q.2.b.trap])), (3, some (.box true [.nils .word, .nils .bool, .nils .word, .int .i64 0, .ff, .int .i64 0, .int .i64 0, .int .i64 0, .int .i64 0, .int .i64 0, .nils .word, .int .i64 0, .ff, .int .i64 0, .int .i64 0, .int .i64 0, .int .i64 0, .int .i64 0])), (2, some (.flat false (.int .i64) none od)), (1, some (.flat false .inst none b)), (0, some (.flat false .inst none a))], nums.tail.tail.tail.tail.tail.tail.tail.tail.tail, [], false, []⟩)
    (fun q => q.1 ≤ od.length ∧ LTwo q.2 2147483647 ∧ (od.length ≤ 600 → twoRunGo a b (od.drop q.1) q.2 = twoRun a b t od) ∧ (600 < od.length → q.1 = 0 ∧ q.2 = t)) (fun q => od.length - q.1) (fun q R hI hR => ?_) (0, t) _ ⟨by simp, l3, fun h => by unfold twoRun; rw [if_neg (by omega)]; rfl, fun _ => ⟨rfl, rfl⟩⟩ (by dsimp only; omega)
  obtain ⟨i, v⟩ := q
  obtain ⟨hi, hl, hx⟩ := hI
  conv => whnf
  repeat' (first | (refine sel_i (fun h => ?_) (fun h => ?_) <;> conv => whnf) | (refine chk_c ?_ ?_ <;> conv => whnf) | (refine And.intro ?_ rfl) | (refine And.intro ?_ ?_ <;> conv => whnf))
  all_goals (try simp only [etaKey, etaWord, etaMemory, etaSide, etaTwo, decide_eq_true_eq, decide_eq_false_iff_not, Int.toNat_natCast] at *)
  all_goals first
    | (refine ⟨?_⟩; assumption)
    | (refine ⟨?_⟩; exact ⟨by assumption, by assumption, by assumption⟩)
    | (refine ⟨?_⟩; omega)
    | (rw [wrap_id (n := (i : Int) + 1) (by omega) (by omega)]; exact hR (i + 1, (twoStep a b v (od.getD i 0)).1) ⟨by dsimp only; omega, twoStep_len hl, fun _ => by rw [← hx.1 (by omega)]; exact (twoRunGo_step (by omega)).symm, fun _ => by omega⟩ (by dsimp only; omega))
    | (rw [twoRun_big (by omega), ← (hx.2 (by omega)).2]; rfl)
    | (by_cases hb : od.length ≤ 600
       · rw [twoRun_end (by assumption) (hx.1 hb)]; rfl
       · rw [twoRun_big (by omega), ← (hx.2 (by omega)).2]; rfl)
    | trace_state
theorem ok_spec_TwoRun : FunOk Tryz.prog c_spec_TwoRun := funOk (E := [c_spec_TwoStep, c_spec_l22Copy]) (envOk_cons ok_spec_TwoStep (envOk_cons ok_spec_l22Copy (envOk_nil))) mixd Tryz.func40 (pf := pf_spec_TwoRun) (by kernel_rfl) fun ts K h => by
  obtain ⟨t0, t1, t2, t3, e0, h⟩ := as4_out h
  subst e0
  obtain ⟨a, e1, hq⟩ := arC_out (rd_l .inst) h
  clear h
  subst e1
  have h := hq
  clear hq
  obtain ⟨b, e1, hq⟩ := arC_out (rd_l .inst) h
  clear h
  subst e1
  have h := hq
  clear hq
  obtain ⟨t, e1, hq⟩ := arG_out rd_two h
  clear h
  subst e1
  have h := hq
  clear hq
  obtain ⟨od, e1, hq⟩ := arC_out (rd_l (.int .i64)) h
  clear h
  subst e1
  have h := hq
  clear hq
  obtain ⟨hpre, h⟩ := chk_o h
  exact ⟨_, _, h, Nat.le_of_ble_eq_true (show Nat.ble 4 Tryz.f40.ntmps = true by kernel_rfl), _, run_spec_TwoRun a b t od hpre⟩

def lb_impl_TwoRun_0 : PC := .seq (.reg [.s (.bin 21 .lss (.t 20) (.t 19))]) (.seq (.cond (.t 21) (.skip) (.exit 0)) (.seq (.blk 1 (.seq (.reg [.s (.ia 22 (.int .i64) (.t 18) (.t 20)), .s (.load 23 false 1 (.t 22)), .s (.mv 11 (.t 23))]) (.reg [.s (.mv 25 (.t 0)), .s (.mv 26 (.t 1)), .s (.load 27 true 18 (.t 9)), .s (.mv 28 (.t 11)), .s (.call (some 29) 33 [(.t 25), (.t 26), (.t 27), (.t 28)]), .s (.mv 24 (.t 29)), .s (.ext 30 (.t 24) 0), .s (.ext 31 (.t 24) 1), .s (.store 18 (.t 9) (.t 30))]))) (.reg [.s (.bin 32 .add (.t 20) (.k (.v (.c (.int .i64 1))))), .s (.mv 20 (.t 32))])))
def pf_impl_TwoRun : PF := ⟨[.c 8 true 18], .seq (.reg [.s (.box 6 (.t 2)), .s (.alloc 8 [.nils .word, .nils .bool, .nils .word, .int .i64 0, .ff, .int .i64 0, .int .i64 0, .int .i64 0, .int .i64 0, .int .i64 0, .nils .word, .int .i64 0, .ff, .int .i64 0, .int .i64 0, .int .i64 0, .int .i64 0, .int .i64 0])]) (.seq (.reg [.s (.load 12 true 18 (.t 6)), .s (.call (some 13) 100 [(.t 12)]), .s (.alloc 9 [.nils .word, .nils .bool, .nils .word, .int .i64 0, .ff, .int .i64 0, .int .i64 0, .int .i64 0, .int .i64 0, .int .i64 0, .nils .word, .int .i64 0, .ff, .int .i64 0, .int .i64 0, .int .i64 0, .int .i64 0, .int .i64 0]), .s (.store 18 (.t 9) (.t 13))]) (.seq (.seq (.reg [.s (.mv 14 (.t 3)), .s (.len 15 false (.t 14)), .s (.bin 16 .gtr (.t 15) (.k (.v (.c (.int .i64 600)))))]) (.cond (.t 16) (.seq (.reg [.s (.load 17 true 18 (.t 9)), .s (.store 18 (.t 8) (.t 17))]) (.ret)) (.skip))) (.seq (.seq (.reg [.s (.mv 18 (.t 3)), .s (.len 19 false (.t 18)), .s (.mv 20 (.k (.v (.c (.int .i64 0)))))]) (.blk 0 (.loop [0, 1, 8, 9, 18, 19, 20] lb_impl_TwoRun_0))) (.seq (.reg [.s (.load 33 true 18 (.t 9)), .s (.store 18 (.t 8) (.t 33))]) (.ret)))))⟩
def c_impl_TwoRun : Fun := ⟨39, [], fun ts K => as4 ts fun t0 t1 t2 t3 => arC (pL .inst) t0 fun a => arC (pL .inst) t1 fun b => arG pTwoT t2 fun t => arC (pL (.int .i64)) t3 fun od => chk (a.length ≤ 2147483647 ∧ b.length ≤ 2147483647 ∧ LTwo t 2147483647 ∧ od.length ≤ 2147483647) (K (tG ((twoRun a b t od).tc true [])) [])⟩
theorem run_impl_TwoRun (a : List (FT.Ty .inst)) (b : List (FT.Ty .inst)) (t : Two) (od : List (FT.Ty (.int .i64))) (hpre : a.length ≤ 2147483647 ∧ b.length ≤ 2147483647 ∧ LTwo t 2147483647 ∧ od.length ≤ 2147483647) : runK [c_impl_TwoStep, c_impl_cloneTwo] (od.length + 1) [] pf_impl_TwoRun [tL false .inst a, tL false .inst b, tG (t.tc false []), tL false (.int .i64) od] fun r o => r = tG ((twoRun a b t od).tc true []) ∧ o = [] := by
  obtain ⟨l1, l2, l3, l4⟩ := hpre
  conv => whnf
  refine chk_i l3 ?_
  conv => whnf
  refine sel_i (fun h => ?_) (fun h => ?_)
  · conv => whnf
    repeat' (first | (refine sel_i (fun h => ?_) (fun h => ?_) <;> conv => whnf) | (refine chk_c ?_ ?_ <;> conv => whnf) | (refine And.intro ?_ rfl) | (refine And.intro ?_ ?_ <;> conv => whnf))
    all_goals (try simp only [etaKey, etaWord, etaMemory, etaSide, etaTwo, decide_eq_true_eq, decide_eq_false_iff_not, Int.toNat_natCast, gt_iff_lt] at *)
    unfold twoRun
    rw [if_pos (by omega)]
    rfl
  have h : ¬ 600 < od.length := by simp only [decide_eq_false_iff_not, gt_iff_lt] at h; omega
  conv => whnf
  refine loop (α := Nat × Two) (fun q => ⟨[(0, .v (.c (.sl false .inst 0))), (1, .v (.c (.sl false .inst 1))), (8, .v (.c (.ptr 2 0))), (9, .v (.c (.ptr 3 0))), (18, .v (.c (.sl false (.int .i64) 8))), (19, .v (.c (.int .i64 (od.length : Int)))), (20, .v (.c (.int .i64 (q.1 : Int))))],
        [(8, some (.flat false (.int .i64) none od)), (7, some (.flat true .word none q.2.b.regs)), (6, some (.flat true .word none q.2.a.regs)), (5, some (.flat true .bool none q.2.mem.gone)), (4, some (.flat true .word none q.2.mem.words)), (3, some (.box true [.sl false .word 4, .sl false .bool 5, .sl false .word 6, .int .i64 q.2.a.pc.n, .bool q.2.a.pc.is, .int .i64 q.2.a.pc.key.base, .int .i64 q.2.a.pc.key.top, .int .i64 q.2.a.pc.key.perms, .int .i64 q.2.a.pc.key.sealed, .int .i64 q.2.a.trap, .sl false .word 7, .int .i64 q.2.b.pc.n, .bool q.2.b.pc.is, .int .i64 q.2.b.pc.key.base, .int .i64 q.2.b.pc.key.top, .int .i64 q.2.b.pc.key.perms, .int .i64 q.2.b.pc.key.sealed, .int .i64 q.2.b.trap])), (2, some (.box true [.nils .word, .nils .bool, .nils .word, .int .i64 0, .ff, .int .i64 0, .int .i64 0, .int .i64 0, .int .i64 0, .int .i64 0, .nils .word, .int .i64 0, .ff, .int .i64 0, .int .i64 0, .int .i64 0, .int .i64 0, .int .i64 0])), (1, some (.flat false .inst none b)), (0, some (.flat false .inst none a))], nums.tail.tail.tail.tail.tail.tail.tail.tail.tail, [], false, []⟩)
    (fun q => q.1 ≤ od.length ∧ LTwo q.2 2147483647 ∧ twoRunGo a b (od.drop q.1) q.2 = twoRun a b t od) (fun q => od.length - q.1) (fun q R hI hR => ?_) (0, t) _ ⟨by simp, l3, by unfold twoRun; rw [if_neg h]; rfl⟩ (by dsimp only; omega)
  obtain ⟨i, v⟩ := q
  obtain ⟨hi, hl, hx⟩ := hI
  conv => whnf
  repeat' (first | (refine sel_i (fun h => ?_) (fun h => ?_) <;> conv => whnf) | (refine chk_c ?_ ?_ <;> conv => whnf) | (refine And.intro ?_ rfl) | (refine And.intro ?_ ?_ <;> conv => whnf))
  all_goals (try simp only [etaKey, etaWord, etaMemory, etaSide, etaTwo, decide_eq_true_eq, decide_eq_false_iff_not, Int.toNat_natCast] at *)
  all_goals first
    | (refine ⟨?_⟩; assumption)
    | (refine ⟨?_⟩; exact ⟨by assumption, by assumption, by assumption⟩)
    | (refine ⟨?_⟩; omega)
    | (rw [wrap_id (n := (i : Int) + 1) (by omega) (by omega)]; exact hR (i + 1, (twoStep a b v (od.getD i 0)).1) ⟨by dsimp only; omega, twoStep_len hl, by rw [← hx]; exact (twoRunGo_step (by omega)).symm⟩ (by dsimp only; omega))
    | (rw [twoRun_end (by assumption) hx]; rfl)
    | trace_state
theorem ok_impl_TwoRun : FunOk Tryz.prog c_impl_TwoRun := funOk (E := [c_impl_TwoStep, c_impl_cloneTwo]) (envOk_cons ok_impl_TwoStep (envOk_cons ok_impl_cloneTwo (envOk_nil))) mixd Tryz.func39 (pf := pf_impl_TwoRun) (by kernel_rfl) fun ts K h => by
  obtain ⟨t0, t1, t2, t3, e0, h⟩ := as4_out h
  subst e0
  obtain ⟨a, e1, hq⟩ := arC_out (rd_l .inst) h
  clear h
  subst e1
  have h := hq
  clear hq
  obtain ⟨b, e1, hq⟩ := arC_out (rd_l .inst) h
  clear h
  subst e1
  have h := hq
  clear hq
  obtain ⟨t, e1, hq⟩ := arG_out rd_two h
  clear h
  subst e1
  have h := hq
  clear hq
  obtain ⟨od, e1, hq⟩ := arC_out (rd_l (.int .i64)) h
  clear h
  subst e1
  have h := hq
  clear hq
  obtain ⟨hpre, h⟩ := chk_o h
  exact ⟨_, _, h, Nat.le_of_ble_eq_true (show Nat.ble 4 Tryz.f39.ntmps = true by kernel_rfl), _, run_impl_TwoRun a b t od hpre⟩

theorem digits_rel : ∀ (n t : Nat) (acc : Array Value) (zs : List Int), acc.toList = zs.map (Value.int .u8) → ∃ ys, (Extern.BytealgMakeNoZero.digits n t acc).toList = (zs ++ ys).map (Value.int .u8) ∧ ys.length = n
  | 0, t, acc, zs, h => ⟨[], by rw [List.append_nil]; exact h, rfl⟩
  | n + 1, t, acc, zs, h => by
    obtain ⟨ys, h1, h2⟩ := digits_rel n (t / 256) (acc.push (.int .u8 (Int.ofNat (t % 256)))) (zs ++ [Int.ofNat (t % 256)]) (by simp [h])
    exact ⟨Int.ofNat (t % 256) :: ys, by rw [Extern.BytealgMakeNoZero.digits, h1]; simp, by simp [h2]⟩
theorem run_mnz {P : Program} (w : World) (ps : Array TypeId) (t e : TypeId) (ht : P.underlying t = some (.slice e)) (n : Nat) (hn : n ≤ 281474976710656) :
    ∃ (cs : Array Value) (zs : List Int), (Extern.BytealgMakeNoZero.makeNoZero ps #[t] #[.int .i64 n]).run P w = .ok (.slice (some ⟨w.heap.size, 0, none⟩) n cs.size) (w.drew.drew.alloc (.cells cs e)) ∧ n ≤ cs.size ∧ cs.toList = zs.map (Value.int .u8) := by
  obtain ⟨ys, h1, h2⟩ := digits_rel (grownCap w n 0 e) ((Question.extern "internal/bytealg.MakeNoZero.bytes" 0).cut (w.tape (w.drawn + 1) (.extern "internal/bytealg.MakeNoZero.bytes" 0))) #[] [] rfl
  have hsz := Lib.size_digits (grownCap w n 0 e) ((Question.extern "internal/bytealg.MakeNoZero.bytes" 0).cut (w.tape (w.drawn + 1) (.extern "internal/bytealg.MakeNoZero.bytes" 0))) #[]
  refine ⟨Extern.BytealgMakeNoZero.digits (grownCap w n 0 e) ((Question.extern "internal/bytealg.MakeNoZero.bytes" 0).cut (w.tape (w.drawn + 1) (.extern "internal/bytealg.MakeNoZero.bytes" 0))) #[], ys, ?_, ?_, by simpa using h1⟩
  · have k1 : ¬ (n : Int) < 0 := by omega
    have k2 : ¬ (281474976710656 : Int) < (n : Int) := by omega
    have hdef : Extern.BytealgMakeNoZero.makeNoZero ps #[t] #[.int .i64 n] =
      (do
        let .slice elem ← underlying t | stuck "bytealg.MakeNoZero: slice type expected"
        if (n : Int) < 0 || (n : Int) > 2 ^ 48 then runtimePanic (.error "makeslice: len out of range")
        let cap ← choose (.appendCap (n : Int).toNat 0 elem)
        askRoom cap
        let bytes ← choose (.extern "internal/bytealg.MakeNoZero.bytes" 0)
        let a ← newRow elem (Extern.BytealgMakeNoZero.digits cap bytes #[])
        pure (.slice (some a) (n : Int).toNat cap)) := rfl
    rw [hdef]
    simp [run_underlying ht, k1, k2, Question.forced, newRow, Lib.size_digits, grownCap]
  · rw [hsz]; simpa using grownCap_ge w n 0 e
def mnzFun (f : Nat) : Fun := ⟨f, [], fun ts K => as1 ts fun t0 => arC (pI .i64) t0 fun n => chk (0 ≤ n ∧ n ≤ 1000000) (∀ zs : List Int, zs.length = n.toNat → K (tL true (.int .u8) zs) [])⟩
theorem mnz_ok {P : Program} {f : Nat} {fn : Func} {ps : Array TypeId} {t e : TypeId} (hf : P.funcs[f]? = some fn) (hname : (fn.name == "runtime.NumGoroutine") = false)
    (hb : fn.body.isNone = true) (hn : Extern.findNext fn = none) (he : Extern.find fn = some (Extern.BytealgMakeNoZero.makeNoZero ps #[t])) (ht : P.underlying t = some (.slice e)) : FunOk P (mnzFun f) := by
  intro ts K h
  obtain ⟨t0, e0, h⟩ := as1_out h
  subst e0
  obtain ⟨n, e1, h⟩ := arC_out (rd_int .i64) h
  subst e1
  obtain ⟨⟨h0, h1⟩, h⟩ := chk_o h
  intro w vs F G hrep _ _ _
  obtain ⟨v, vs', hvs⟩ : ∃ v vs', vs = v :: vs' := by cases vs with
    | nil => exact hrep.elim
    | cons v vs' => exact ⟨v, vs', rfl⟩
  subst hvs
  obtain ⟨F1, F2, G1, G2, hv, hr, rfl, rfl⟩ := hrep
  have hv' : v = .int .i64 n ∧ F1 = [] ∧ G1 = [] := hv
  obtain ⟨rfl, rfl, rfl⟩ := hv'
  cases vs' with
  | cons _ _ => exact hr.elim
  | nil =>
  obtain ⟨rfl, rfl⟩ := hr
  obtain ⟨m, rfl⟩ : ∃ m : Nat, n = m := ⟨n.toNat, by omega⟩
  obtain ⟨cs, zs, hrun, hle, hcs⟩ := run_mnz (P := P) w ps t e ht m (by omega)
  have hzl : zs.length = cs.size := by rw [← Array.length_toList, hcs]; simp
  have g := Grown.alloc w.drew.drew cs e
  refine .inr ⟨_, _, (run_callFunc_extern hf hname hb hn he #[.int .i64 (m : Int)] w).trans (by rw [hrun]; rfl), tL true (.int .u8) (zs.take m), [], h _ (by simp; omega), ?_⟩
  have hsz : w.drew.drew.heap.size = w.heap.size := rfl
  have hcell : CellsR none0 (flats (.int .u8) (zs.take m)) (cs.toList.take m) := by
    rw [hcs, ← List.map_take]
    generalize zs.take m = ys
    induction ys with
    | nil => trivial
    | cons y ys ih => exact ⟨rfl, ih⟩
  have hlen : (zs.take m).length = m := by simp; omega
  have hB : BlkR (w.drew.drew.alloc (.cells cs e)) none0 ⟨w.heap.size, 0, cs.size, m⟩ (.flat true (.int .u8) none (zs.take m)) :=
    ⟨hlen.symm, hle, (fun _ e => by cases e), ⟨_, fun j v hj => by
      have hj2 : cs.toList[j]? = some v := by rw [List.getElem?_take] at hj; split at hj <;> first | exact hj | cases hj
      have := g.cell j
      rw [Nat.zero_add]
      exact this.trans (by simpa using hj2), hcell⟩, fun _ => ⟨fun j hj => by
        have hj' : j < cs.size := by simpa [FT.sz] using hj
        rw [Nat.zero_add]
        exact ⟨by rw [show (w.drew.drew.alloc (.cells cs e)).cell? ⟨w.heap.size, j, none⟩ = cs[j]? from g.cell j]; simp [hj'], g.frz j hj'⟩, fun _ => g.free.le (by simp [FT.sz])⟩⟩
  refine ⟨.slice (some ⟨w.heap.size, 0, none⟩) m cs.size, (Blk.flat true (.int .u8) none (zs.take m)).foot ⟨w.heap.size, 0, cs.size, m⟩, [], [], [], rfl, ⟨⟨w.heap.size, 0, cs.size, m⟩, some ⟨w.heap.size, 0, none⟩, ⟨rfl, (fun e => by cases e), fun _ => rfl⟩, hB, rfl, rfl⟩, ⟨rfl, rfl⟩, ?_, fun x hx => ?_, (fun x hx => by cases hx), ?_⟩
  · simp only [Blk.foot, List.nil_append]; split <;> simp
  · simp only [Blk.foot, List.nil_append] at hx
    split at hx
    · simp only [List.mem_singleton] at hx
      subst hx
      exact ⟨by have := g.size; rw [this]; show w.heap.size < w.heap.size + 1; omega, .inr (Nat.le_refl _)⟩
    · cases hx
  · exact g.fr

def c_bytealg_MakeNoZero : Fun := mnzFun 219
theorem ok_bytealg_MakeNoZero : FunOk Tryz.prog c_bytealg_MakeNoZero := mnz_ok (ps := #[3]) (t := 22) (e := 5) Tryz.func219 (by kernel_rfl) (by kernel_rfl) (by kernel_rfl) (by kernel_rfl) (by kernel_rfl)

theorem list9 {zs : List Int} (h : zs.length = 9) : ∃ a b c d e p q r s, zs = [a, b, c, d, e, p, q, r, s] := by
  match zs, h with
  | [a, b, c, d, e, p, q, r, s], _ => exact ⟨a, b, c, d, e, p, q, r, s, rfl⟩
def five (xss : List (List Int)) (k : Int → Int → Int → Int → Int → Int → Int → Int → Int → Prop) : Prop := match xss with
  | [[a, b], [c], [d, e], [p, q], [r, s]] => k a b c d e p q r s
  | _ => False
theorem five_out {xss : List (List Int)} {k : Int → Int → Int → Int → Int → Int → Int → Int → Int → Prop} (h : five xss k) : ∃ a b c d e p q r s, xss = [[a, b], [c], [d, e], [p, q], [r, s]] ∧ k a b c d e p q r s := by
  unfold five at h
  split at h
  · exact ⟨_, _, _, _, _, _, _, _, _, rfl, h⟩
  · exact h.elim
def noneL (xs : List Int) (k : Prop) : Prop := match xs with | [] => k | _ :: _ => False
theorem noneL_out {xs : List Int} {k : Prop} (h : noneL xs k) : xs = [] ∧ k := by
  cases xs with
  | nil => exact ⟨rfl, h⟩
  | cons _ _ => exact h.elim

def lb_bytes_Join_0 : PC := .seq (.reg [.s (.bin 45 .lss (.t 44) (.t 43))]) (.seq (.cond (.t 45) (.skip) (.exit 0)) (.seq (.blk 1 (.seq (.reg [.s (.iar 46 (.t 42) (.t 44)), .s (.load 47 false 1 (.t 46)), .s (.mv 7 (.t 47))]) (.seq (.seq (.reg [.s (.mv 48 (.t 7)), .s (.len 49 false (.t 48)), .s (.mv 50 (.t 5)), .s (.bin 51 .sub (.k (.v (.c (.int .i64 9223372036854775807)))) (.t 50)), .s (.bin 52 .gtr (.t 49) (.t 51))]) (.cond (.t 52) (.reg [.s (.no), .s (.no)]) (.skip))) (.reg [.s (.mv 54 (.t 5)), .s (.mv 55 (.t 7)), .s (.len 56 false (.t 55)), .s (.bin 57 .add (.t 54) (.t 56)), .s (.mv 5 (.t 57))])))) (.reg [.s (.bin 58 .add (.t 44) (.k (.v (.c (.int .i64 1))))), .s (.mv 44 (.t 58))])))
def lb_bytes_Join_1 : PC := .seq (.reg [.s (.bin 73 .lss (.t 72) (.t 71))]) (.seq (.cond (.t 73) (.skip) (.exit 2)) (.seq (.blk 3 (.seq (.reg [.s (.iar 74 (.t 70) (.t 72)), .s (.load 75 false 1 (.t 74)), .s (.mv 11 (.t 75))]) (.seq (.reg [.s (.mv 76 (.t 9)), .s (.mv 77 (.t 8)), .s (.mv 78 (.t 9)), .s (.slc 79 (.int .u8) (.t 77) (some (.t 78)) none), .s (.mv 80 (.t 1)), .s (.cpy (some 81) (.int .u8) (.t 79) (.t 80)), .s (.bin 82 .add (.t 76) (.t 81)), .s (.mv 9 (.t 82))]) (.reg [.s (.mv 83 (.t 9)), .s (.mv 84 (.t 8)), .s (.mv 85 (.t 9)), .s (.slc 86 (.int .u8) (.t 84) (some (.t 85)) none), .s (.mv 87 (.t 11)), .s (.cpy (some 88) (.int .u8) (.t 86) (.t 87)), .s (.bin 89 .add (.t 83) (.t 88)), .s (.mv 9 (.t 89))])))) (.reg [.s (.bin 90 .add (.t 72) (.k (.v (.c (.int .i64 1))))), .s (.mv 72 (.t 90))])))
def pf_bytes_Join : PF := ⟨[.t 4], .seq (.reg [.s (.mv 4 (.k (.v (.c (.nils (.int .u8))))))]) (.seq (.seq (.reg [.s (.mv 12 (.t 0)), .s (.lenr 13 (.t 12)), .s (.bin 14 .eql (.t 13) (.k (.v (.c (.int .i64 0)))))]) (.cond (.t 14) (.seq (.reg [.s (.bs 15 (.int .u8) []), .s (.mv 4 (.t 15))]) (.ret)) (.skip))) (.seq (.seq (.reg [.s (.mv 16 (.t 0)), .s (.lenr 17 (.t 16)), .s (.bin 18 .eql (.t 17) (.k (.v (.c (.int .i64 1)))))]) (.cond (.t 18) (.seq (.reg [.s (.mv 19 (.t 0)), .s (.iar 20 (.t 19) (.k (.v (.c (.int .i64 0))))), .s (.load 21 false 1 (.t 20)), .s (.app 22 (.int .u8) (.k (.v (.c (.nils (.int .u8))))) (.t 21)), .s (.mv 4 (.t 22))]) (.ret)) (.skip))) (.seq (.reg [.s (.mv 5 (.k (.v (.c (.int .i64 0)))))]) (.seq (.seq (.reg [.s (.mv 23 (.t 1)), .s (.len 24 false (.t 23)), .s (.bin 25 .gtr (.t 24) (.k (.v (.c (.int .i64 0)))))]) (.cond (.t 25) (.seq (.seq (.reg [.s (.mv 26 (.t 1)), .s (.len 27 false (.t 26)), .s (.mv 28 (.t 0)), .s (.lenr 29 (.t 28)), .s (.bin 30 .sub (.t 29) (.k (.v (.c (.int .i64 1))))), .s (.bin 31 .quo (.k (.v (.c (.int .i64 9223372036854775807)))) (.t 30)), .s (.bin 32 .geq (.t 27) (.t 31))]) (.cond (.t 32) (.reg [.s (.no), .s (.no)]) (.skip))) (.reg [.s (.mv 34 (.t 5)), .s (.mv 35 (.t 1)), .s (.len 36 false (.t 35)), .s (.mv 37 (.t 0)), .s (.lenr 38 (.t 37)), .s (.bin 39 .sub (.t 38) (.k (.v (.c (.int .i64 1))))), .s (.bin 40 .mul (.t 36) (.t 39)), .s (.bin 41 .add (.t 34) (.t 40)), .s (.mv 5 (.t 41))])) (.skip))) (.seq (.seq (.reg [.s (.mv 42 (.t 0)), .s (.lenr 43 (.t 42)), .s (.mv 44 (.k (.v (.c (.int .i64 0)))))]) (.blk 0 (.loop [0, 1, 5, 42, 43, 44] lb_bytes_Join_0))) (.seq (.reg [.s (.mv 59 (.t 5)), .s (.call (some 60) 219 [(.t 59)]), .s (.mv 61 (.t 5)), .s (.mv 62 (.t 5)), .s (.slc3 63 (.int .u8) (.t 60) (.t 61) (.t 62)), .s (.mv 8 (.t 63))]) (.seq (.reg [.s (.mv 64 (.t 8)), .s (.mv 65 (.t 0)), .s (.iar 66 (.t 65) (.k (.v (.c (.int .i64 0))))), .s (.load 67 false 1 (.t 66)), .s (.cpy (some 68) (.int .u8) (.t 64) (.t 67)), .s (.mv 9 (.t 68))]) (.seq (.seq (.reg [.s (.mv 69 (.t 0)), .s (.slr 70 (.t 69) (.k (.v (.c (.int .i64 1))))), .s (.lenr 71 (.t 70)), .s (.mv 72 (.k (.v (.c (.int .i64 0)))))]) (.blk 2 (.loop [1, 8, 9, 70, 71, 72] lb_bytes_Join_1))) (.seq (.reg [.s (.mv 91 (.t 8)), .s (.mv 4 (.t 91))]) (.ret))))))))))⟩
def c_bytes_Join : Fun := ⟨170, [], fun ts K => as2 ts fun t0 t1 => arRB t0 fun xss => arC (pL (.int .u8)) t1 fun sep => noneL sep (five xss fun a b c d e p q r s => K (tL true (.int .u8) [a, b, c, d, e, p, q, r, s]) [])⟩
set_option maxHeartbeats 4000000 in
theorem run_bytes_Join (a b c d e p q r s : Int) : runK [c_bytealg_MakeNoZero] 10 [] pf_bytes_Join [.rows 5 [tl false (.int .u8) [a, b], tl false (.int .u8) [c], tl false (.int .u8) [d, e], tl false (.int .u8) [p, q], tl false (.int .u8) [r, s]], tL false (.int .u8) []] fun x o => x = tL true (.int .u8) [a, b, c, d, e, p, q, r, s] ∧ o = [] := by
  conv => whnf
  repeat' (first | (refine sel_i (fun h => ?_) (fun h => ?_) <;> first | (exfalso; revert h; decide) | conv => whnf) | (refine chk_c ?_ ?_ <;> conv => whnf) | (refine iter_s ?_; conv => whnf) | (refine And.intro ?_ rfl) | (refine And.intro ?_ ?_ <;> conv => whnf))
  all_goals (try first
    | (refine ⟨?_⟩; decide)
    | (refine ⟨?_⟩; simp only [List.length_cons, List.length_nil]; decide)
    | (refine ⟨?_⟩; simp only [List.length_cons, List.length_nil, IntKind.wrap_i64]; omega)
    | (exfalso; simp only [List.length_cons, List.length_nil, decide_eq_true_eq, decide_eq_false_iff_not, gt_iff_lt, IntKind.wrap_i64] at h; omega))
  intro zs hz
  have hz : zs.length = 9 := by
    simp only [List.length_cons, List.length_nil] at hz
    exact hz.trans (by decide)
  obtain ⟨z0, z1, z2, z3, z4, z5, z6, z7, z8, rfl⟩ := list9 hz
  clear hz
  conv => whnf
  repeat' (first | (refine sel_i (fun h => ?_) (fun h => ?_) <;> conv => whnf) | (refine chk_c ?_ ?_ <;> conv => whnf) | (refine And.intro ?_ rfl) | (refine And.intro ?_ ?_ <;> conv => whnf))
  all_goals (try first
    | (refine ⟨?_⟩; decide)
    | (refine ⟨?_⟩; simp only [List.length_cons, List.length_nil]; decide)
    | (refine ⟨?_⟩; simp only [List.length_cons, List.length_nil, IntKind.wrap_i64]; omega)
    | (exfalso; simp only [List.length_cons, List.length_nil, decide_eq_true_eq, decide_eq_false_iff_not, gt_iff_lt, IntKind.wrap_i64] at h; omega))
  refine loop (α := Nat) (fun j => ⟨[(1, .v (.c (.sl false (.int .u8) 0))), (8, .v (.c (.sl false (.int .u8) 1))), (9, .v (.c (.int .i64 (([2, 3, 5, 7, 9] : List Int).getD j 0)))), (70, .rows 2 1 4), (71, .v (.c (.int .i64 4))), (72, .v (.c (.int .i64 (j : Int))))],
      [(7, some (.flat false (.int .u8) none [r, s])), (6, some (.flat false (.int .u8) none [p, q])), (5, some (.flat false (.int .u8) none [d, e])), (4, some (.flat false (.int .u8) none [c])), (3, some (.flat false (.int .u8) none [a, b])),
       (2, some (.box false [.sl false (.int .u8) 3, .sl false (.int .u8) 4, .sl false (.int .u8) 5, .sl false (.int .u8) 6, .sl false (.int .u8) 7])),
       (1, some (.flat true (.int .u8) none (match j with | 0 => [a, b, z2, z3, z4, z5, z6, z7, z8] | 1 => [a, b, c, z3, z4, z5, z6, z7, z8] | 2 => [a, b, c, d, e, z5, z6, z7, z8] | 3 => [a, b, c, d, e, p, q, z7, z8] | _ => [a, b, c, d, e, p, q, r, s]))),
       (0, some (.flat false (.int .u8) none []))], nums.tail.tail.tail.tail.tail.tail.tail.tail, [], false, []⟩) (fun j => j ≤ 4) (fun j => 4 - j) (fun j R hI hR => ?_) 0 _ (show (0 : Nat) ≤ 4 by decide) (show 4 - 0 < 10 by decide)
  have hj : j = 0 ∨ j = 1 ∨ j = 2 ∨ j = 3 ∨ j = 4 := by omega
  rcases hj with rfl | rfl | rfl | rfl | rfl
  · conv => whnf
    repeat' (first | (refine sel_i (fun h => ?_) (fun h => ?_) <;> first | (exfalso; revert h; decide) | conv => whnf) | (refine chk_c ?_ ?_ <;> conv => whnf) | (refine iter_s ?_; conv => whnf) | (refine And.intro ?_ rfl) | (refine And.intro ?_ ?_ <;> conv => whnf))
    all_goals first
      | (refine ⟨?_⟩; decide)
      | (refine ⟨?_⟩; exact (show (0 : Int) ≤ 2 ∧ (2 : Int) ≤ 9 by decide))
      | exact hR 1 (by decide) (by decide)
      | trace_state
  · conv => whnf
    repeat' (first | (refine sel_i (fun h => ?_) (fun h => ?_) <;> first | (exfalso; revert h; decide) | conv => whnf) | (refine chk_c ?_ ?_ <;> conv => whnf) | (refine iter_s ?_; conv => whnf) | (refine And.intro ?_ rfl) | (refine And.intro ?_ ?_ <;> conv => whnf))
    all_goals first
      | (refine ⟨?_⟩; decide)
      | (refine ⟨?_⟩; exact (show (0 : Int) ≤ 3 ∧ (3 : Int) ≤ 9 by decide))
      | exact hR 2 (by decide) (by decide)
      | trace_state
  · conv => whnf
    repeat' (first | (refine sel_i (fun h => ?_) (fun h => ?_) <;> first | (exfalso; revert h; decide) | conv => whnf) | (refine chk_c ?_ ?_ <;> conv => whnf) | (refine iter_s ?_; conv => whnf) | (refine And.intro ?_ rfl) | (refine And.intro ?_ ?_ <;> conv => whnf))
    all_goals first
      | (refine ⟨?_⟩; decide)
      | (refine ⟨?_⟩; exact (show (0 : Int) ≤ 5 ∧ (5 : Int) ≤ 9 by decide))
      | exact hR 3 (by decide) (by decide)
      | trace_state
  · conv => whnf
    repeat' (first | (refine sel_i (fun h => ?_) (fun h => ?_) <;> first | (exfalso; revert h; decide) | conv => whnf) | (refine chk_c ?_ ?_ <;> conv => whnf) | (refine iter_s ?_; conv => whnf) | (refine And.intro ?_ rfl) | (refine And.intro ?_ ?_ <;> conv => whnf))
    all_goals first
      | (refine ⟨?_⟩; decide)
      | (refine ⟨?_⟩; exact (show (0 : Int) ≤ 7 ∧ (7 : Int) ≤ 9 by decide))
      | exact hR 4 (by decide) (by decide)
      | trace_state
  · conv => whnf
    repeat' (first | (refine sel_i (fun h => ?_) (fun h => ?_) <;> first | (exfalso; revert h; decide) | conv => whnf) | (refine chk_c ?_ ?_ <;> conv => whnf) | (refine iter_s ?_; conv => whnf) | (refine And.intro ?_ rfl) | (refine And.intro ?_ ?_ <;> conv => whnf))
    all_goals first
      | (refine ⟨?_⟩; decide)
      | exact ⟨rfl, rfl⟩
      | rfl
      | trace_state
theorem ok_bytes_Join : FunOk Tryz.prog c_bytes_Join := funOk (E := [c_bytealg_MakeNoZero]) (envOk_cons ok_bytealg_MakeNoZero envOk_nil) mixd Tryz.func170 (pf := pf_bytes_Join) (by kernel_rfl) fun ts K h => by
  obtain ⟨t0, t1, e0, hp⟩ := as2_out h
  clear h
  subst e0
  obtain ⟨xss, e1, hq⟩ := arRB_out hp
  clear hp
  subst e1
  obtain ⟨sep, e2, hr⟩ := arC_out (rd_l (.int .u8)) hq
  clear hq
  subst e2
  obtain ⟨e3, h2⟩ := noneL_out hr
  clear hr
  have e3 : sep = [] := e3
  subst e3
  obtain ⟨a, b, c, d, e, p, q, r, s, e4, h3⟩ := five_out h2
  clear h2
  subst e4
  exact ⟨_, _, h3, Nat.le_of_ble_eq_true (show Nat.ble 2 Tryz.f170.ntmps = true by kernel_rfl), _, run_bytes_Join a b c d e p q r s⟩

theorem hi8s {n : Int} : IntKind.u8.wrap (n.fdiv (2 ^ min (Int.toNat 8) IntKind.i64.bits)) = (n / 256) % 256 := by
  rw [show (2 ^ min (Int.toNat 8) IntKind.i64.bits : Int) = 256 by decide, Int.fdiv_eq_ediv_of_nonneg _ (by decide)]
  rfl

def pf_impl_two : PF := ⟨[.t 2], .seq (.reg [.s (.mv 2 (.k (.v (.c (.nils (.int .u8))))))]) (.seq (.reg [.s (.mv 3 (.t 0)), .s (.bin 4 .shr (.t 3) (.k (.v (.c (.int .u64 8))))), .s (.conv 5 .u8 (.t 4)), .s (.mv 6 (.t 0)), .s (.conv 7 .u8 (.t 6)), .s (.bs 8 (.int .u8) [(.t 5), (.t 7)]), .s (.mv 2 (.t 8))]) (.ret))⟩
def c_impl_two : Fun := ⟨169, [], fun ts K => as1 ts fun t0 => arC (pI .i64) t0 fun n => K (tL true (.int .u8) [(n / 256) % 256, n % 256]) []⟩
theorem run_impl_two (n : Int) : runK [] (0) [] pf_impl_two [tI .i64 n] fun r o => r = tL true (.int .u8) [(n / 256) % 256, n % 256] ∧ o = [] := by
  conv => whnf
  repeat' (first | (refine sel_i (fun h => ?_) (fun h => ?_) <;> conv => whnf) | (refine chk_c ?_ ?_ <;> conv => whnf) | (refine And.intro ?_ rfl) | (refine And.intro ?_ ?_ <;> conv => whnf))
  all_goals (try simp only [hi8s])
  all_goals first
    | (refine ⟨?_⟩; decide)
    | rfl
    | trace_state
theorem ok_impl_two : FunOk Tryz.prog c_impl_two := funOk (E := []) (envOk_nil) mixd Tryz.func169 (pf := pf_impl_two) (by kernel_rfl) fun ts K h => by
  obtain ⟨t0, e0, h⟩ := as1_out h
  subst e0
  obtain ⟨n, e1, hq⟩ := arC_out (rd_int .i64) h
  clear h
  subst e1
  have h := hq
  clear hq
  exact ⟨_, _, h, Nat.le_of_ble_eq_true (show Nat.ble 1 Tryz.f169.ntmps = true by kernel_rfl), _, run_impl_two n⟩

def pf_impl_WordBytes : PF := ⟨[.t 2], .seq (.reg [.s (.box 1 (.t 0)), .s (.mv 2 (.k (.v (.c (.nils (.int .u8))))))]) (.seq (.seq (.reg [.s (.load 3 true 6 (.t 1)), .s (.call (some 4) 69 [(.t 3)]), .s (.bnot 5 (.t 4))]) (.cond (.t 5) (.seq (.reg [.s (.mv 2 (.k (.v (.c (.nils (.int .u8))))))]) (.ret)) (.skip))) (.seq (.seq (.reg [.s (.fa 6 (.t 1) 1), .s (.load 7 false 1 (.t 6)), .s (.bnot 8 (.t 7))]) (.cond (.t 8) (.seq (.reg [.s (.fa 9 (.t 1) 0), .s (.load 10 false 1 (.t 9)), .s (.call (some 11) 169 [(.t 10)]), .s (.bs 12 (.int .u8) [(.k (.v (.c (.int .u8 0))))]), .s (.app 13 (.int .u8) (.t 11) (.t 12)), .s (.mv 2 (.t 13))]) (.ret)) (.skip))) (.seq (.rgd [] [.s (.fa 14 (.t 1) 0), .s (.load 15 false 1 (.t 14)), .s (.call (some 16) 169 [(.t 15)]), .s (.bs 17 (.int .u8) [(.k (.v (.c (.int .u8 1))))]), .s (.fa 18 (.t 1) 2), .s (.fa 19 (.t 18) 0), .s (.load 20 false 1 (.t 19)), .s (.call (some 21) 169 [(.t 20)]), .s (.fa 22 (.t 1) 2), .s (.fa 23 (.t 22) 1), .s (.load 24 false 1 (.t 23)), .s (.call (some 25) 169 [(.t 24)]), .s (.fa 26 (.t 1) 2), .s (.fa 27 (.t 26) 2), .s (.load 28 false 1 (.t 27)), .s (.conv 29 .u8 (.t 28)), .s (.fa 30 (.t 1) 2), .s (.fa 31 (.t 30) 3), .s (.load 32 false 1 (.t 31)), .s (.conv 33 .u8 (.t 32)), .s (.bs 34 (.int .u8) [(.t 29), (.t 33)]), .s (.bsr 35 [(.t 16), (.t 17), (.t 21), (.t 25), (.t 34)]), .s (.call (some 36) 170 [(.t 35), (.k (.v (.c (.nils (.int .u8)))))]), .s (.mv 2 (.t 36))] (.tk 0 (.tk 1 (.tk 4 (.tk 5 (.tk 6 (.tk 8 (.tk 9 (.tk 10 (.tk 12 (.tk 13 (.tk 14 (.tk 15 (.tk 16 (.tk 17 (.tk 18 (.tk 19 (.alt 2 false (.alt 3 false (.alt 7 false (.alt 11 false (.one 20 false (.one 21 true (.one 22 true (.tk 23 (.done (some [2])))))) (.alt 20 false (.one 11 false (.one 21 true (.one 22 true (.tk 23 (.done (some [2])))))) (.nil))) (.alt 20 false (.one 7 false (.one 11 false (.one 21 true (.one 22 true (.tk 23 (.done (some [2]))))))) (.nil))) (.alt 7 false (.alt 3 false (.alt 11 false (.one 20 false (.one 21 true (.one 22 true (.tk 23 (.done (some [2])))))) (.alt 20 false (.one 11 false (.one 21 true (.one 22 true (.tk 23 (.done (some [2])))))) (.nil))) (.alt 11 false (.alt 3 false (.one 20 false (.one 21 true (.one 22 true (.tk 23 (.done (some [2])))))) (.alt 20 false (.one 3 false (.one 21 true (.one 22 true (.tk 23 (.done (some [2])))))) (.nil))) (.alt 20 false (.alt 3 false (.one 11 false (.one 21 true (.one 22 true (.tk 23 (.done (some [2])))))) (.alt 11 false (.one 3 false (.one 21 true (.one 22 true (.tk 23 (.done (some [2])))))) (.nil))) (.nil)))) (.alt 20 false (.alt 3 false (.one 7 false (.one 11 false (.one 21 true (.one 22 true (.tk 23 (.done (some [2]))))))) (.alt 7 false (.alt 3 false (.one 11 false (.one 21 true (.one 22 true (.tk 23 (.done (some [2])))))) (.alt 11 false (.one 3 false (.one 21 true (.one 22 true (.tk 23 (.done (some [2])))))) (.nil))) (.nil))) (.nil)))) (.alt 3 false (.alt 2 false (.alt 7 false (.alt 11 false (.one 20 false (.one 21 true (.one 22 true (.tk 23 (.done (some [2])))))) (.alt 20 false (.one 11 false (.one 21 true (.one 22 true (.tk 23 (.done (some [2])))))) (.nil))) (.alt 20 false (.one 7 false (.one 11 false (.one 21 true (.one 22 true (.tk 23 (.done (some [2]))))))) (.nil))) (.alt 20 false (.one 2 false (.one 7 false (.one 11 false (.one 21 true (.one 22 true (.tk 23 (.done (some [2])))))))) (.nil))) (.alt 20 false (.alt 2 false (.alt 3 false (.one 7 false (.one 11 false (.one 21 true (.one 22 true (.tk 23 (.done (some [2]))))))) (.alt 7 false (.alt 3 false (.one 11 false (.one 21 true (.one 22 true (.tk 23 (.done (some [2])))))) (.alt 11 false (.one 3 false (.one 21 true (.one 22 true (.tk 23 (.done (some [2])))))) (.nil))) (.nil))) (.alt 3 false (.one 2 false (.one 7 false (.one 11 false (.one 21 true (.one 22 true (.tk 23 (.done (some [2])))))))) (.nil))) (.nil))))))))))))))))))))) (.ret))))⟩
def c_impl_WordBytes : Fun := ⟨97, [], fun ts K => as1 ts fun t0 => arG pWordT t0 fun w => K (tL true (.int .u8) (wordBytes w)) []⟩
theorem run_impl_WordBytes (w : Word) : runK [c_impl_WordOk, c_impl_two, c_bytes_Join] (0) [] pf_impl_WordBytes [tG (w.tc [])] fun r o => r = tL true (.int .u8) (wordBytes w) ∧ o = [] := by
  conv => whnf
  repeat' (first | (refine sel_i (fun h => ?_) (fun h => ?_) <;> conv => whnf) | (refine chk_c ?_ ?_ <;> conv => whnf) | (refine And.intro ?_ rfl) | (refine And.intro ?_ ?_ <;> conv => whnf))
  all_goals (try simp only [etaKey, etaWord, Bool.not_eq_true', Bool.not_eq_false'] at *)
  all_goals first
    | (refine ⟨?_⟩; show 3 ≤ 2147483647; decide)
    | trivial
    | (simp only [wordBytes, *]; rfl)
    | (rename_i h1
       have h2 := h
       have hn := wordOk_n h1
       rw [show w.n / 256 % 256 = w.n / 256 by omega]
       simp only [wordBytes, h1, h2, if_true, Bool.false_eq_true, if_false]; rfl)
    | (have h1 : wordOk w = true := by assumption
       have h2 := h
       have hn := wordOk_n h1
       have hk := wordOk_key h1 h2
       rw [show w.n / 256 % 256 = w.n / 256 by omega, show w.key.base / 256 % 256 = w.key.base / 256 by omega, show w.key.top / 256 % 256 = w.key.top / 256 by omega, u8_id (n := w.key.perms) (by omega), u8_id (n := w.key.sealed) (by omega)]
       simp only [wordBytes, h1, h2, if_true]; done)
    | trace_state
theorem ok_impl_WordBytes : FunOk Tryz.prog c_impl_WordBytes := funOk (E := [c_impl_WordOk, c_impl_two, c_bytes_Join]) (envOk_cons ok_impl_WordOk (envOk_cons ok_impl_two (envOk_cons ok_bytes_Join (envOk_nil)))) mixd Tryz.func97 (pf := pf_impl_WordBytes) (by kernel_rfl) fun ts K h => by
  obtain ⟨t0, e0, h⟩ := as1_out h
  subst e0
  obtain ⟨w, e1, hq⟩ := arG_out rd_word h
  clear h
  subst e1
  have h := hq
  clear hq
  exact ⟨_, _, h, Nat.le_of_ble_eq_true (show Nat.ble 1 Tryz.f97.ntmps = true by kernel_rfl), _, run_impl_WordBytes w⟩

theorem wordBytes_len (w : Word) : (wordBytes w).length ≤ 9 := by
  unfold wordBytes
  split
  · split <;> simp
  · simp

def elSeen (c : Int) : Seen := ⟨c, c + 1, c + 1 + 1, c + 1 + 1 + 1⟩
def mkSeenS (n : Nat) (k : Int) : List Seen := (List.range n).map (fun j : Nat => elSeen (k + 4 * j))
theorem mkSeenS_length (n : Nat) (k : Int) : (mkSeenS n k).length = n := by simp [mkSeenS]

def seenGo (l : List Inst) : Nat → State → List Seen
  | 0, _ => []
  | k + 1, s => if (seenOf l s).2 then (seenOf l s).1 :: seenGo l k (stepS l s) else []
def seenRun (l : List Inst) (s : State) (n : Int) : List Seen := seenGo l (min n 600).toNat s
theorem seenGo_len (l : List Inst) : ∀ (k : Nat) (s : State), (seenGo l k s).length ≤ k
  | 0, _ => Nat.le_refl _
  | k + 1, s => by
    unfold seenGo
    split
    · have := seenGo_len l k (stepS l s); simp; omega
    · simp
theorem seenRun_len (l : List Inst) (s : State) (n : Int) : (seenRun l s n).length ≤ 600 := by
  have := seenGo_len l (min n 600).toNat s
  unfold seenRun; omega

theorem seenGo_no {l : List Inst} {s : State} (h : (seenOf l s).2 = false) : ∀ k, seenGo l k s = []
  | 0 => rfl
  | k + 1 => by unfold seenGo; rw [h]; rfl
theorem seenRun_step {l : List Inst} {s v : State} {n : Int} {xs : List Seen} (hx : xs ++ seenGo l ((min n 600).toNat - xs.length) v = seenRun l s n) (h : (xs.length : Int) < min n 600) (h2 : (seenOf l v).2 = true) :
    (xs ++ [(seenOf l v).1]) ++ seenGo l ((min n 600).toNat - (xs ++ [(seenOf l v).1]).length) (stepS l v) = seenRun l s n := by
  rw [← hx]
  obtain ⟨k, hk⟩ : ∃ k, (min n 600).toNat - xs.length = k + 1 := ⟨(min n 600).toNat - xs.length - 1, by omega⟩
  rw [show (min n 600).toNat - (xs ++ [(seenOf l v).1]).length = k by simp; omega, hk]
  rw [show seenGo l (k + 1) v = (seenOf l v).1 :: seenGo l k (stepS l v) by simp only [seenGo, h2, if_true]]
  simp
theorem seenRun_end {l : List Inst} {s v : State} {n : Int} {xs : List Seen} (hx : xs ++ seenGo l ((min n 600).toNat - xs.length) v = seenRun l s n) (h : ¬ (xs.length : Int) < min n 600) : seenRun l s n = xs := by
  rw [← hx, show (min n 600).toNat - xs.length = 0 by omega]; simp [seenGo]
theorem seenRun_stop {l : List Inst} {s v : State} {n : Int} {xs : List Seen} (hx : xs ++ seenGo l ((min n 600).toNat - xs.length) v = seenRun l s n) (h : (seenOf l v).2 = false) : seenRun l s n = xs := by
  rw [← hx, seenGo_no h]; simp

def wordsBytes (ws : List Word) : List Int := ws.flatMap wordBytes
def goneByte (b : Bool) : Int := if b then 1 else 0
def goneBytes (g : List Bool) : List Int := g.map goneByte
def stateBytes (s : State) : List Int :=
  if stateOk s then wordsBytes s.regs ++ wordBytes s.pc ++ wordsBytes s.mem.words ++ goneBytes s.mem.gone ++ [s.trap] else []
theorem wordsBytes_len : ∀ ws : List Word, (wordsBytes ws).length ≤ 9 * ws.length
  | [] => Nat.le_refl _
  | w :: ws => by
    have h1 := wordsBytes_len ws
    have h2 := wordBytes_len w
    unfold wordsBytes at *
    simp only [List.flatMap_cons, List.length_append, List.length_cons]; omega
theorem wordsBytes_app (a b : List Word) : wordsBytes (a ++ b) = wordsBytes a ++ wordsBytes b := List.flatMap_append
theorem wordsBytes_one (w : Word) : wordsBytes [w] = wordBytes w := by simp [wordsBytes]
theorem goneBytes_len (g : List Bool) : (goneBytes g).length = g.length := by simp [goneBytes]
theorem take_next {α : Type} {xs : List α} {i : Nat} {z : α} (h : i < xs.length) : xs.take (i + 1) = xs.take i ++ [xs.getD i z] := by
  rw [List.take_succ_eq_append_getElem h]; simp [List.getD_eq_getElem?_getD, h]
theorem wordsBytes_step {ws : List Word} {i : Nat} {z : Word} (h : i < ws.length) : wordsBytes (ws.take (i + 1)) = wordsBytes (ws.take i) ++ wordBytes (ws.getD i z) := by
  rw [take_next (z := z) h, wordsBytes_app, wordsBytes_one]
theorem goneBytes_step {g : List Bool} {i : Nat} {z : Bool} (h : i < g.length) : goneBytes (g.take (i + 1)) = goneBytes (g.take i) ++ [goneByte (g.getD i z)] := by
  rw [take_next (z := z) h]; simp [goneBytes]
theorem stateBytes_no {s : State} (h : stateOk s = false) : stateBytes s = [] := by unfold stateBytes; rw [h]; rfl
theorem stateBytes_ok {s : State} (h : stateOk s = true) : stateBytes s = wordsBytes s.regs ++ wordBytes s.pc ++ wordsBytes s.mem.words ++ goneBytes s.mem.gone ++ [s.trap] := if_pos h

def lb_impl_StateBytes_0 : PC := .seq (.reg [.s (.bin 18 .lss (.t 17) (.t 16))]) (.seq (.cond (.t 18) (.skip) (.exit 0)) (.seq (.blk 1 (.seq (.reg [.s (.ia 19 .word (.t 15) (.t 17)), .s (.load 20 true 6 (.t 19)), .s (.alloc 5 [.int .i64 0, .ff, .int .i64 0, .int .i64 0, .int .i64 0, .int .i64 0]), .s (.store 6 (.t 5) (.t 20))]) (.reg [.s (.mv 21 (.t 3)), .s (.load 22 true 6 (.t 5)), .s (.call (some 23) 97 [(.t 22)]), .s (.app 24 (.int .u8) (.t 21) (.t 23)), .s (.mv 3 (.t 24))]))) (.reg [.s (.bin 25 .add (.t 17) (.k (.v (.c (.int .i64 1))))), .s (.mv 17 (.t 25))])))
def lb_impl_StateBytes_1 : PC := .seq (.reg [.s (.bin 36 .lss (.t 35) (.t 34))]) (.seq (.cond (.t 36) (.skip) (.exit 2)) (.seq (.blk 3 (.seq (.reg [.s (.ia 37 .word (.t 33) (.t 35)), .s (.load 38 true 6 (.t 37)), .s (.alloc 7 [.int .i64 0, .ff, .int .i64 0, .int .i64 0, .int .i64 0, .int .i64 0]), .s (.store 6 (.t 7) (.t 38))]) (.reg [.s (.mv 39 (.t 3)), .s (.load 40 true 6 (.t 7)), .s (.call (some 41) 97 [(.t 40)]), .s (.app 42 (.int .u8) (.t 39) (.t 41)), .s (.mv 3 (.t 42))]))) (.reg [.s (.bin 43 .add (.t 35) (.k (.v (.c (.int .i64 1))))), .s (.mv 35 (.t 43))])))
def lb_impl_StateBytes_2 : PC := .seq (.reg [.s (.bin 49 .lss (.t 48) (.t 47))]) (.seq (.cond (.t 49) (.skip) (.exit 4)) (.seq (.blk 5 (.seq (.reg [.s (.ia 50 .bool (.t 46) (.t 48)), .s (.load 51 false 1 (.t 50)), .s (.mv 9 (.t 51))]) (.seq (.reg [.s (.mv 52 (.t 9))]) (.cond (.t 52) (.reg [.s (.mv 53 (.t 3)), .s (.bs 54 (.int .u8) [(.k (.v (.c (.int .u8 1))))]), .s (.app 55 (.int .u8) (.t 53) (.t 54)), .s (.mv 3 (.t 55))]) (.reg [.s (.mv 56 (.t 3)), .s (.bs 57 (.int .u8) [(.k (.v (.c (.int .u8 0))))]), .s (.app 58 (.int .u8) (.t 56) (.t 57)), .s (.mv 3 (.t 58))]))))) (.reg [.s (.bin 59 .add (.t 48) (.k (.v (.c (.int .i64 1))))), .s (.mv 48 (.t 59))])))
def pf_impl_StateBytes : PF := ⟨[.t 2], .seq (.reg [.s (.box 1 (.t 0)), .s (.mv 2 (.k (.v (.c (.nils (.int .u8))))))]) (.seq (.seq (.reg [.s (.load 10 true 10 (.t 1)), .s (.call (some 11) 12 [(.t 10)]), .s (.bnot 12 (.t 11))]) (.cond (.t 12) (.seq (.reg [.s (.mv 2 (.k (.v (.c (.nils (.int .u8))))))]) (.ret)) (.skip))) (.seq (.reg [.s (.bs 13 (.int .u8) []), .s (.mv 3 (.t 13))]) (.seq (.seq (.reg [.s (.fa 14 (.t 1) 0), .s (.load 15 false 1 (.t 14)), .s (.len 16 false (.t 15)), .s (.mv 17 (.k (.v (.c (.int .i64 0)))))]) (.blk 0 (.loop [1, 3, 15, 16, 17] lb_impl_StateBytes_0))) (.seq (.reg [.s (.mv 26 (.t 3)), .s (.fa 27 (.t 1) 1), .s (.load 28 true 6 (.t 27)), .s (.call (some 29) 97 [(.t 28)]), .s (.app 30 (.int .u8) (.t 26) (.t 29)), .s (.mv 3 (.t 30))]) (.seq (.seq (.reg [.s (.fa 31 (.t 1) 7), .s (.fa 32 (.t 31) 0), .s (.load 33 false 1 (.t 32)), .s (.len 34 false (.t 33)), .s (.mv 35 (.k (.v (.c (.int .i64 0)))))]) (.blk 2 (.loop [1, 3, 33, 34, 35] lb_impl_StateBytes_1))) (.seq (.seq (.reg [.s (.fa 44 (.t 1) 7), .s (.fa 45 (.t 44) 1), .s (.load 46 false 1 (.t 45)), .s (.len 47 false (.t 46)), .s (.mv 48 (.k (.v (.c (.int .i64 0)))))]) (.blk 4 (.loop [1, 3, 46, 47, 48] lb_impl_StateBytes_2))) (.seq (.reg [.s (.mv 60 (.t 3)), .s (.fa 61 (.t 1) 9), .s (.load 62 false 1 (.t 61)), .s (.conv 63 .u8 (.t 62)), .s (.bs 64 (.int .u8) [(.t 63)]), .s (.app 65 (.int .u8) (.t 60) (.t 64)), .s (.mv 2 (.t 65))]) (.ret))))))))⟩
def c_impl_StateBytes : Fun := ⟨31, [], fun ts K => as1 ts fun t0 => arG pStateT t0 fun s => chk (LState s 2147483647) (K (tL true (.int .u8) (stateBytes s)) [])⟩
theorem run_impl_StateBytes (s : State) (hpre : LState s 2147483647) : runK [c_impl_StateOk, c_impl_WordBytes] (30) [] pf_impl_StateBytes [tG (s.tc false [])] fun r o => r = tL true (.int .u8) (stateBytes s) ∧ o = [] := by
  obtain ⟨l2, l3, l4⟩ := hpre
  conv => whnf
  refine chk_i ⟨l2, l3, l4⟩ ?_
  conv => whnf
  refine sel_i (fun h => ?_) (fun h => ?_)
  · conv => whnf
    rw [stateBytes_no (by simpa using h)]
    exact ⟨rfl, rfl⟩
  have hok : stateOk s = true := by simpa [etaKey, etaWord, etaMemory, etaState] using h
  obtain ⟨e1, e2, e3⟩ := stateOk_len hok
  have ht := stateOk_trap hok
  conv => whnf
  refine loop (α := Nat × List Int) (fun q => ⟨[(1, .v (.c (.ptr 0 0))), (3, .v (.c (.sl true (.int .u8) 4))), (15, .v (.c (.sl false .word 1))), (16, .v (.c (.int .i64 (s.regs.length : Int)))), (17, .v (.c (.int .i64 (q.1 : Int))))],
        [(4, some (.flat true (.int .u8) none q.2)), (3, some (.flat false .bool none s.mem.gone)), (2, some (.flat false .word none s.mem.words)), (1, some (.flat false .word none s.regs)), (0, some (.box true [.sl false .word 1, .int .i64 s.pc.n, .bool s.pc.is, .int .i64 s.pc.key.base, .int .i64 s.pc.key.top, .int .i64 s.pc.key.perms, .int .i64 s.pc.key.sealed, .sl false .word 2, .sl false .bool 3, .int .i64 s.trap]))], nums.tail.tail.tail.tail.tail, [], false, []⟩)
    (fun q => q.1 ≤ 8 ∧ q.2 = wordsBytes (s.regs.take q.1)) (fun q => 8 - q.1) (fun q R hI hR => ?_) (0, []) _ ⟨by simp, rfl⟩ (by simp)
  obtain ⟨i, xs⟩ := q
  obtain ⟨hi, hx⟩ := hI
  dsimp only at hi hx
  have hxl : xs.length ≤ 72 := by rw [hx]; have := wordsBytes_len (s.regs.take i); simp at this; omega
  conv => whnf
  refine sel_i (fun h2 => ?_) (fun h2 => ?_)
  · simp only [decide_eq_true_eq] at h2
    have hw := wordBytes_len (s.regs.getD i (FT.zero .word))
    conv => whnf
    repeat' (first | (refine sel_i (fun h => ?_) (fun h => ?_) <;> conv => whnf) | (refine chk_c ?_ ?_ <;> conv => whnf) | (refine And.intro ?_ rfl) | (refine And.intro ?_ ?_ <;> conv => whnf))
    all_goals (try simp only [etaKey, etaWord, etaMemory, etaState, Int.toNat_natCast] at *)
    all_goals first
      | (refine ⟨?_⟩; omega)
      | (rw [wrap_id (n := (i : Int) + 1) (by omega) (by omega)]; exact hR (i + 1, xs ++ wordBytes (s.regs.getD i (FT.zero .word))) ⟨by dsimp only; omega, by dsimp only; rw [wordsBytes_step (z := FT.zero .word) (by omega), hx]⟩ (by dsimp only; omega))
      | trace_state
  simp only [decide_eq_false_iff_not] at h2
  have hi8 : i = 8 := by omega
  have hx : xs = wordsBytes s.regs := by rw [hx, List.take_of_length_le (by omega)]
  clear h2 hR
  have hw := wordBytes_len s.pc
  conv => whnf
  refine chk_i (show xs.length + (wordBytes s.pc).length ≤ 2147483647 by omega) ?_
  conv => whnf
  refine loop (α := Nat × List Int) (fun q => ⟨[(1, .v (.c (.ptr 0 0))), (3, .v (.c (.sl true (.int .u8) 4))), (33, .v (.c (.sl false .word 2))), (34, .v (.c (.int .i64 (s.mem.words.length : Int)))), (35, .v (.c (.int .i64 (q.1 : Int))))],
        [(4, some (.flat true (.int .u8) none q.2)), (3, some (.flat false .bool none s.mem.gone)), (2, some (.flat false .word none s.mem.words)), (1, some (.flat false .word none s.regs)), (0, some (.box true [.sl false .word 1, .int .i64 s.pc.n, .bool s.pc.is, .int .i64 s.pc.key.base, .int .i64 s.pc.key.top, .int .i64 s.pc.key.perms, .int .i64 s.pc.key.sealed, .sl false .word 2, .sl false .bool 3, .int .i64 s.trap]))], nums.tail.tail.tail.tail.tail, [], false, []⟩)
    (fun q => q.1 ≤ 24 ∧ q.2 = xs ++ wordBytes s.pc ++ wordsBytes (s.mem.words.take q.1)) (fun q => 24 - q.1) (fun q R hI hR => ?_) (0, xs ++ wordBytes s.pc) _ ⟨by simp, by simp [wordsBytes]⟩ (by simp)
  obtain ⟨j, ys⟩ := q
  obtain ⟨hj, hy⟩ := hI
  dsimp only at hj hy
  have hyl : ys.length ≤ 300 := by rw [hy]; have := wordsBytes_len (s.mem.words.take j); simp at this ⊢; omega
  conv => whnf
  refine sel_i (fun h2 => ?_) (fun h2 => ?_)
  · simp only [decide_eq_true_eq] at h2
    have hw := wordBytes_len (s.mem.words.getD j (FT.zero .word))
    conv => whnf
    repeat' (first | (refine sel_i (fun h => ?_) (fun h => ?_) <;> conv => whnf) | (refine chk_c ?_ ?_ <;> conv => whnf) | (refine And.intro ?_ rfl) | (refine And.intro ?_ ?_ <;> conv => whnf))
    all_goals (try simp only [etaKey, etaWord, etaMemory, etaState, Int.toNat_natCast] at *)
    all_goals first
      | (refine ⟨?_⟩; omega)
      | (rw [wrap_id (n := (j : Int) + 1) (by omega) (by omega)]; exact hR (j + 1, ys ++ wordBytes (s.mem.words.getD j (FT.zero .word))) ⟨by dsimp only; omega, by dsimp only; rw [wordsBytes_step (z := FT.zero .word) (by omega), hy, List.append_assoc]⟩ (by dsimp only; omega))
      | trace_state
  simp only [decide_eq_false_iff_not] at h2
  have hy : ys = wordsBytes s.regs ++ wordBytes s.pc ++ wordsBytes s.mem.words := by rw [hy, hx, List.take_of_length_le (by omega)]
  clear h2 hR hx
  conv => whnf
  refine loop (α := Nat × List Int) (fun q => ⟨[(1, .v (.c (.ptr 0 0))), (3, .v (.c (.sl true (.int .u8) 4))), (46, .v (.c (.sl false .bool 3))), (47, .v (.c (.int .i64 (s.mem.gone.length : Int)))), (48, .v (.c (.int .i64 (q.1 : Int))))],
        [(4, some (.flat true (.int .u8) none q.2)), (3, some (.flat false .bool none s.mem.gone)), (2, some (.flat false .word none s.mem.words)), (1, some (.flat false .word none s.regs)), (0, some (.box true [.sl false .word 1, .int .i64 s.pc.n, .bool s.pc.is, .int .i64 s.pc.key.base, .int .i64 s.pc.key.top, .int .i64 s.pc.key.perms, .int .i64 s.pc.key.sealed, .sl false .word 2, .sl false .bool 3, .int .i64 s.trap]))], nums.tail.tail.tail.tail.tail, [], false, []⟩)
    (fun q => q.1 ≤ 24 ∧ q.2 = ys ++ goneBytes (s.mem.gone.take q.1)) (fun q => 24 - q.1) (fun q R hI hR => ?_) (0, ys) _ ⟨by simp, by simp [goneBytes]⟩ (by simp)
  obtain ⟨k, zs⟩ := q
  obtain ⟨hk, hz⟩ := hI
  dsimp only at hk hz
  have hzl : zs.length ≤ 400 := by rw [hz]; simp [goneBytes_len]; omega
  conv => whnf
  repeat' (first | (refine sel_i (fun h => ?_) (fun h => ?_) <;> conv => whnf) | (refine chk_c ?_ ?_ <;> conv => whnf) | (refine And.intro ?_ rfl) | (refine And.intro ?_ ?_ <;> conv => whnf))
  all_goals (try simp only [etaKey, etaWord, etaMemory, etaState, Int.toNat_natCast, decide_eq_true_eq, decide_eq_false_iff_not] at *)
  all_goals first
    | (refine ⟨?_⟩; omega)
    | (refine ⟨?_⟩; simp; omega)
    | (rw [wrap_id (n := (k : Int) + 1) (by omega) (by omega)]
       have e := goneBytes_step (g := s.mem.gone) (i := k) (z := FT.zero .bool) (by omega)
       exact hR (k + 1, zs ++ _) ⟨by dsimp only; omega, by dsimp only; rw [e, hz, List.append_assoc]; simp only [*, goneByte, if_true, Bool.false_eq_true, if_false]⟩ (by dsimp only; omega))
    | (rw [stateBytes_ok hok, hz, hy, List.take_of_length_le (by omega), u8_id (by omega)])
    | trace_state
theorem ok_impl_StateBytes : FunOk Tryz.prog c_impl_StateBytes := funOk (E := [c_impl_StateOk, c_impl_WordBytes]) (envOk_cons ok_impl_StateOk (envOk_cons ok_impl_WordBytes (envOk_nil))) mixd Tryz.func31 (pf := pf_impl_StateBytes) (by kernel_rfl) fun ts K h => by
  obtain ⟨t0, e0, h⟩ := as1_out h
  subst e0
  obtain ⟨s, e1, hq⟩ := arG_out rd_state h
  clear h
  subst e1
  have h := hq
  clear hq
  obtain ⟨hpre, h⟩ := chk_o h
  exact ⟨_, _, h, Nat.le_of_ble_eq_true (show Nat.ble 1 Tryz.f31.ntmps = true by kernel_rfl), _, run_impl_StateBytes s hpre⟩

def lb_spec_StateBytes_0 : PC := .seq (.seq (.reg [.s (.mv 26 (.t 5)), .s (.mv 27 (.t 4)), .s (.len 28 false (.t 27)), .s (.bin 29 .lss (.t 26) (.t 28))]) (.cond (.t 29) (.skip) (.exit 0))) (.seq (.blk 1 (.reg [.s (.mv 32 (.t 3)), .s (.mv 33 (.t 4)), .s (.mv 34 (.t 5)), .s (.ia 35 .word (.t 33) (.t 34)), .s (.load 36 true 6 (.t 35)), .s (.call (some 37) 165 [(.t 36)]), .s (.app 38 (.int .u8) (.t 32) (.t 37)), .s (.mv 3 (.t 38))])) (.reg [.s (.mv 30 (.t 5)), .s (.bin 31 .add (.t 30) (.k (.v (.c (.int .i64 1))))), .s (.mv 5 (.t 31))]))
def lb_spec_StateBytes_1 : PC := .seq (.seq (.reg [.s (.mv 39 (.t 6)), .s (.bin 40 .lss (.t 39) (.k (.v (.c (.int .i64 24)))))]) (.cond (.t 40) (.skip) (.exit 2))) (.seq (.blk 3 (.seq (.reg [.s (.mv 7 (.k (.v (.c (.int .u8 0)))))]) (.seq (.seq (.reg [.s (.fa 43 (.t 1) 7), .s (.fa 44 (.t 43) 1), .s (.load 45 false 1 (.t 44)), .s (.mv 46 (.t 6)), .s (.ia 47 .bool (.t 45) (.t 46)), .s (.load 48 false 1 (.t 47))]) (.cond (.t 48) (.reg [.s (.mv 7 (.k (.v (.c (.int .u8 1)))))]) (.skip))) (.reg [.s (.mv 49 (.t 3)), .s (.mv 50 (.t 7)), .s (.bs 51 (.int .u8) [(.t 50)]), .s (.app 52 (.int .u8) (.t 49) (.t 51)), .s (.mv 3 (.t 52))])))) (.reg [.s (.mv 41 (.t 6)), .s (.bin 42 .add (.t 41) (.k (.v (.c (.int .i64 1))))), .s (.mv 6 (.t 42))]))
def pf_spec_StateBytes : PF := ⟨[.t 2], .seq (.reg [.s (.box 1 (.t 0)), .s (.mv 2 (.k (.v (.c (.nils (.int .u8))))))]) (.seq (.reg [.s (.bs 8 (.int .u8) []), .s (.mv 3 (.t 8))]) (.seq (.seq (.reg [.s (.load 9 true 10 (.t 1)), .s (.call (some 10) 82 [(.t 9)]), .s (.bnot 11 (.t 10))]) (.cond (.t 11) (.seq (.reg [.s (.mv 12 (.t 3)), .s (.mv 2 (.t 12))]) (.ret)) (.skip))) (.seq (.rgd [] [.s (.bs 13 .word []), .s (.fa 14 (.t 1) 0), .s (.load 15 false 1 (.t 14)), .s (.app 16 .word (.t 13) (.t 15)), .s (.fa 17 (.t 1) 1), .s (.load 18 true 6 (.t 17)), .s (.bs 19 .word [(.t 18)]), .s (.app 20 .word (.t 16) (.t 19)), .s (.mv 4 (.t 20))] (.tk 1 (.tk 2 (.tk 4 (.tk 5 (.alt 0 false (.alt 3 false (.one 6 false (.one 7 true (.tk 8 (.done (some [1, 3, 4]))))) (.alt 6 false (.one 3 false (.one 7 true (.tk 8 (.done (some [1, 3, 4]))))) (.nil))) (.alt 6 false (.one 0 false (.one 3 false (.one 7 true (.tk 8 (.done (some [1, 3, 4])))))) (.nil)))))))) (.seq (.reg [.s (.mv 21 (.t 4)), .s (.fa 22 (.t 1) 7), .s (.fa 23 (.t 22) 0), .s (.load 24 false 1 (.t 23)), .s (.app 25 .word (.t 21) (.t 24)), .s (.mv 4 (.t 25))]) (.seq (.seq (.reg [.s (.mv 5 (.k (.v (.c (.int .i64 0)))))]) (.blk 0 (.loop [1, 3, 4, 5] lb_spec_StateBytes_0))) (.seq (.seq (.reg [.s (.mv 6 (.k (.v (.c (.int .i64 0)))))]) (.blk 2 (.loop [1, 3, 6] lb_spec_StateBytes_1))) (.seq (.reg [.s (.mv 53 (.t 3)), .s (.fa 54 (.t 1) 9), .s (.load 55 false 1 (.t 54)), .s (.conv 56 .u8 (.t 55)), .s (.bs 57 (.int .u8) [(.t 56)]), .s (.app 58 (.int .u8) (.t 53) (.t 57)), .s (.mv 2 (.t 58))]) (.ret))))))))⟩
def c_spec_StateBytes : Fun := ⟨91, [], fun ts K => as1 ts fun t0 => arG pStateT t0 fun s => chk (LState s 2147483647) (K (tL true (.int .u8) (stateBytes s)) [])⟩
theorem run_spec_StateBytes (s : State) (hpre : LState s 2147483647) : runK [c_spec_StateOk, c_spec_WordBytes] (40) [] pf_spec_StateBytes [tG (s.tc false [])] fun r o => r = tL true (.int .u8) (stateBytes s) ∧ o = [] := by
  obtain ⟨l2, l3, l4⟩ := hpre
  conv => whnf
  refine chk_i ⟨l2, l3, l4⟩ ?_
  conv => whnf
  refine sel_i (fun h => ?_) (fun h => ?_)
  · conv => whnf
    rw [stateBytes_no (by simpa using h)]
    exact ⟨rfl, rfl⟩
  have hok : stateOk s = true := by simpa [etaKey, etaWord, etaMemory, etaState] using h
  obtain ⟨e1, e2, e3⟩ := stateOk_len hok
  have ht := stateOk_trap hok
  have ha : ([] ++ s.regs ++ [s.pc] ++ s.mem.words).length = 33 := by simp; omega
  conv => whnf
  repeat' (first | (refine sel_i (fun h => ?_) (fun h => ?_) <;> conv => whnf) | (refine chk_c ?_ ?_ <;> conv => whnf) | (refine And.intro ?_ rfl) | (refine And.intro ?_ ?_ <;> conv => whnf))
  all_goals try (refine ⟨?_⟩; simp only [List.length_append, List.length_nil, List.length_cons]; omega)
  all_goals try exact True.intro
  refine loop (α := Nat × List Int) (fun q => ⟨[(1, .v (.c (.ptr 0 0))), (3, .v (.c (.sl true (.int .u8) 4))), (4, .v (.c (.sl true .word 5))), (5, .v (.c (.int .i64 (q.1 : Int))))],
        [(5, some (.flat true .word none ([] ++ s.regs ++ [s.pc] ++ s.mem.words))), (4, some (.flat true (.int .u8) none q.2)), (3, some (.flat false .bool none s.mem.gone)), (2, some (.flat false .word none s.mem.words)), (1, some (.flat false .word none s.regs)), (0, some (.box true [.sl false .word 1, .int .i64 s.pc.n, .bool s.pc.is, .int .i64 s.pc.key.base, .int .i64 s.pc.key.top, .int .i64 s.pc.key.perms, .int .i64 s.pc.key.sealed, .sl false .word 2, .sl false .bool 3, .int .i64 s.trap]))], nums.tail.tail.tail.tail.tail.tail, [], false, []⟩)
    (fun q => q.1 ≤ 33 ∧ q.2 = wordsBytes (([] ++ s.regs ++ [s.pc] ++ s.mem.words).take q.1)) (fun q => 33 - q.1) (fun q R hI hR => ?_) (0, []) _ ⟨by simp, by simp [wordsBytes]⟩ (by simp)
  obtain ⟨i, xs⟩ := q
  obtain ⟨hi, hx⟩ := hI
  dsimp only at hi hx
  have hxl : xs.length ≤ 300 := by rw [hx]; have := wordsBytes_len (([] ++ s.regs ++ [s.pc] ++ s.mem.words).take i); rw [List.length_take] at this; omega
  conv => whnf
  refine sel_i (fun h2 => ?_) (fun h2 => ?_)
  · have h2 : (i : Int) < (([] ++ s.regs ++ [s.pc] ++ s.mem.words).length : Int) := of_decide_eq_true h2
    rw [ha] at h2
    have hw := wordBytes_len (([] ++ s.regs ++ [s.pc] ++ s.mem.words).getD i (FT.zero .word))
    conv => whnf
    repeat' (first | (refine sel_i (fun h => ?_) (fun h => ?_) <;> conv => whnf) | (refine chk_c ?_ ?_ <;> conv => whnf) | (refine And.intro ?_ rfl) | (refine And.intro ?_ ?_ <;> conv => whnf))
    all_goals (try simp only [etaKey, etaWord, etaMemory, etaState, Int.toNat_natCast] at *)
    all_goals first
      | (refine ⟨?_⟩; omega)
      | (rw [wrap_id (n := (i : Int) + 1) (by omega) (by omega)]; exact hR (i + 1, xs ++ wordBytes (([] ++ s.regs ++ [s.pc] ++ s.mem.words).getD i (FT.zero .word))) ⟨by dsimp only; omega, by dsimp only; rw [wordsBytes_step (z := FT.zero .word) (by omega), hx]⟩ (by dsimp only; omega))
      | trace_state
  have h2 : ¬ (i : Int) < (([] ++ s.regs ++ [s.pc] ++ s.mem.words).length : Int) := of_decide_eq_false h2
  rw [ha] at h2
  have hx : xs = wordsBytes s.regs ++ wordBytes s.pc ++ wordsBytes s.mem.words := by
    rw [hx, List.take_of_length_le (by omega), wordsBytes_app, wordsBytes_app, wordsBytes_one, List.nil_append]
  clear h2 hR ha
  conv => whnf
  refine loop (α := Nat × List Int) (fun q => ⟨[(1, .v (.c (.ptr 0 0))), (3, .v (.c (.sl true (.int .u8) 4))), (6, .v (.c (.int .i64 (q.1 : Int))))],
        [(4, some (.flat true (.int .u8) none q.2)), (3, some (.flat false .bool none s.mem.gone)), (2, some (.flat false .word none s.mem.words)), (1, some (.flat false .word none s.regs)), (0, some (.box true [.sl false .word 1, .int .i64 s.pc.n, .bool s.pc.is, .int .i64 s.pc.key.base, .int .i64 s.pc.key.top, .int .i64 s.pc.key.perms, .int .i64 s.pc.key.sealed, .sl false .word 2, .sl false .bool 3, .int .i64 s.trap]))], nums.tail.tail.tail.tail.tail, [], false, []⟩)
    (fun q => q.1 ≤ 24 ∧ q.2 = xs ++ goneBytes (s.mem.gone.take q.1)) (fun q => 24 - q.1) (fun q R hI hR => ?_) (0, xs) _ ⟨by simp, by simp [goneBytes]⟩ (by simp)
  obtain ⟨k, zs⟩ := q
  obtain ⟨hk, hz⟩ := hI
  dsimp only at hk hz
  have hzl : zs.length ≤ 400 := by rw [hz]; simp [goneBytes_len]; omega
  conv => whnf
  repeat' (first | (refine sel_i (fun h => ?_) (fun h => ?_) <;> conv => whnf) | (refine chk_c ?_ ?_ <;> conv => whnf) | (refine And.intro ?_ rfl) | (refine And.intro ?_ ?_ <;> conv => whnf))
  all_goals (try simp only [etaKey, etaWord, etaMemory, etaState, Int.toNat_natCast, decide_eq_true_eq, decide_eq_false_iff_not] at *)
  all_goals first
    | (refine ⟨?_⟩; omega)
    | (refine ⟨?_⟩; simp; omega)
    | (rw [wrap_id (n := (k : Int) + 1) (by omega) (by omega)]
       have e := goneBytes_step (g := s.mem.gone) (i := k) (z := FT.zero .bool) (by omega)
       exact hR (k + 1, zs ++ _) ⟨by dsimp only; omega, by dsimp only; rw [e, hz, List.append_assoc]; simp only [*, goneByte, if_true, Bool.false_eq_true, if_false]⟩ (by dsimp only; omega))
    | (rw [stateBytes_ok hok, hz, hx, List.take_of_length_le (by omega), u8_id (by omega)])
    | trace_state
theorem ok_spec_StateBytes : FunOk Tryz.prog c_spec_StateBytes := funOk (E := [c_spec_StateOk, c_spec_WordBytes]) (envOk_cons ok_spec_StateOk (envOk_cons ok_spec_WordBytes (envOk_nil))) mixd Tryz.func91 (pf := pf_spec_StateBytes) (by kernel_rfl) fun ts K h => by
  obtain ⟨t0, e0, h⟩ := as1_out h
  subst e0
  obtain ⟨s, e1, hq⟩ := arG_out rd_state h
  clear h
  subst e1
  have h := hq
  clear hq
  obtain ⟨hpre, h⟩ := chk_o h
  exact ⟨_, _, h, Nat.le_of_ble_eq_true (show Nat.ble 1 Tryz.f91.ntmps = true by kernel_rfl), _, run_spec_StateBytes s hpre⟩

theorem stateBytes_len (s : State) : (stateBytes s).length ≤ 400 := by
  by_cases h : stateOk s = true
  · obtain ⟨e1, e2, e3⟩ := stateOk_len h
    have h1 := wordsBytes_len s.regs
    have h2 := wordsBytes_len s.mem.words
    have h3 := wordBytes_len s.pc
    rw [stateBytes_ok h]
    simp only [List.length_append, goneBytes_len, List.length_cons, List.length_nil]; omega
  · rw [stateBytes_no (by simpa using h)]; simp
end Go.Pi
