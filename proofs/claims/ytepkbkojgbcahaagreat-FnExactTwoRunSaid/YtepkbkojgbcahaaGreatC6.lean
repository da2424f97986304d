/- Contracts of functions, each out of its run by PI. No conditions. -/
import Derived.Test.YtepkbkojgbcahaaGreatC5
namespace Go.Pi
open Go.Proofs
set_option linter.unusedVariables false
set_option linter.unusedSimpArgs false
set_option maxRecDepth 100000
attribute [local irreducible] iterN
def pf_laws_toIns : PF := ⟨[.c 2 true 5], .seq (.reg [.s (.box 1 (.t 0)), .s (.alloc 2 [.int .i64 0, .int .i64 0, .int .i64 0, .int .i64 0, .int .i64 0])]) (.seq (.reg [.s (.alloc 3 [.int .i64 0, .int .i64 0, .int .i64 0, .int .i64 0, .int .i64 0])]) (.seq (.reg [.s (.fa 4 (.t 1) 0), .s (.load 5 false 1 (.t 4)), .s (.fa 6 (.t 3) 0), .s (.store 1 (.t 6) (.t 5))]) (.seq (.reg [.s (.fa 7 (.t 1) 1), .s (.load 8 false 1 (.t 7)), .s (.fa 9 (.t 3) 1), .s (.store 1 (.t 9) (.t 8))]) (.seq (.reg [.s (.fa 10 (.t 1) 2), .s (.load 11 false 1 (.t 10)), .s (.fa 12 (.t 3) 2), .s (.store 1 (.t 12) (.t 11))]) (.seq (.reg [.s (.fa 13 (.t 1) 3), .s (.load 14 false 1 (.t 13)), .s (.fa 15 (.t 3) 3), .s (.store 1 (.t 15) (.t 14))]) (.seq (.reg [.s (.fa 16 (.t 1) 4), .s (.load 17 false 1 (.t 16)), .s (.fa 18 (.t 3) 4), .s (.store 1 (.t 18) (.t 17))]) (.seq (.reg [.s (.load 19 true 5 (.t 3)), .s (.store 5 (.t 2) (.t 19))]) (.ret))))))))⟩
def c_laws_toIns : Fun := ⟨34, [], fun ts K => as1 ts fun t0 => arG pInstT t0 fun a => K (tG (a.tc [])) []⟩
theorem run_laws_toIns (a : Inst) : runK [] (0) [] pf_laws_toIns [tG (a.tc [])] fun r o => r = tG (a.tc []) ∧ o = [] := by
  conv => whnf
  repeat' (first
    | exact rfl
    | exact trivial
    | (refine sel_i (fun h => ?_) (fun h => ?_) <;> conv => whnf)
    | (refine chk_c ?_ ?_ <;> conv => whnf)
    | (refine And.intro ?_ ?_ <;> conv => whnf))
theorem ok_laws_toIns : FunOk Tryz.prog c_laws_toIns := funOk (E := []) (envOk_nil) mixd Tryz.func34 (pf := pf_laws_toIns) (by kernel_rfl) fun ts K h => by
  obtain ⟨t0, e0, h⟩ := as1_out h
  subst e0
  obtain ⟨a, e1, hq⟩ := arG_out rd_inst h
  clear h
  subst e1
  have h := hq
  clear hq
  exact ⟨_, _, h, Nat.le_of_ble_eq_true (show Nat.ble 1 Tryz.f34.ntmps = true by kernel_rfl), _, run_laws_toIns a⟩

def pf_laws_szInsS : PF := ⟨[.t 4], .seq (.reg [.s (.mv 4 (.k (.v (.c (.int .i64 0)))))]) (.seq (.reg [.s (.mv 5 (.t 1)), .s (.mv 6 (.t 0)), .s (.len 7 false (.t 6)), .s (.bin 8 .sub (.t 5) (.t 7)), .s (.mv 1 (.t 8))]) (.seq (.seq (.reg [.s (.mv 9 (.t 1)), .s (.bin 10 .lss (.t 9) (.k (.v (.c (.int .i64 0)))))]) (.cond (.t 10) (.seq (.reg [.s (.mv 4 (.k (.v (.c (.int .i64 (-1))))))]) (.ret)) (.skip))) (.seq (.reg [.s (.mv 11 (.t 1)), .s (.mv 4 (.t 11))]) (.ret))))⟩
def c_laws_szInsS : Fun := ⟨6, [], fun ts K => as2 ts fun t0 t1 => arC (pL .inst) t0 fun a => arC (pI .i64) t1 fun k => chk (a.length ≤ 9223372036854775807 ∧ 0 ≤ k ∧ k ≤ 1048576) (K (tN (szr k a.length)) [])⟩
theorem run_laws_szInsS (a : List (FT.Ty .inst)) (k : Int) (hpre : a.length ≤ 9223372036854775807 ∧ 0 ≤ k ∧ k ≤ 1048576) : runK [] (0) [] pf_laws_szInsS [tL false .inst a, tI .i64 k] fun r o => r = tN (szr k a.length) ∧ o = [] := by
  conv => whnf
  rw [wrap_id (by omega) (by omega)]
  refine sel_i (fun h => ?_) (fun h => ?_) <;> conv => whnf
  · refine ⟨?_, rfl⟩; rw [szr_t (by simpa using h)]
  · refine ⟨?_, rfl⟩; rw [szr_f (by simpa using h)]
theorem ok_laws_szInsS : FunOk Tryz.prog c_laws_szInsS := funOk (E := []) (envOk_nil) mixd Tryz.func6 (pf := pf_laws_szInsS) (by kernel_rfl) fun ts K h => by
  obtain ⟨t0, t1, e0, h⟩ := as2_out h
  subst e0
  obtain ⟨a, e1, hq⟩ := arC_out (rd_l .inst) h
  clear h
  subst e1
  have h := hq
  clear hq
  obtain ⟨k, e1, hq⟩ := arC_out (rd_int .i64) h
  clear h
  subst e1
  have h := hq
  clear hq
  obtain ⟨hpre, h⟩ := chk_o h
  exact ⟨_, _, h, Nat.le_of_ble_eq_true (show Nat.ble 2 Tryz.f6.ntmps = true by kernel_rfl), _, run_laws_szInsS a k hpre⟩

def lb_laws_toInsS_0 : PC := .seq (.seq (.reg [.s (.mv 8 (.t 4)), .s (.mv 9 (.t 0)), .s (.len 10 false (.t 9)), .s (.bin 11 .lss (.t 8) (.t 10))]) (.cond (.t 11) (.skip) (.exit 0))) (.seq (.blk 1 (.reg [.s (.mv 14 (.t 3)), .s (.mv 15 (.t 4)), .s (.mv 16 (.t 0)), .s (.mv 17 (.t 4)), .s (.ia 18 .inst (.t 16) (.t 17)), .s (.load 19 true 5 (.t 18)), .s (.call (some 20) 34 [(.t 19)]), .s (.ia 21 .inst (.t 14) (.t 15)), .s (.store 5 (.t 21) (.t 20))])) (.reg [.s (.mv 12 (.t 4)), .s (.bin 13 .add (.t 12) (.k (.v (.c (.int .i64 1))))), .s (.mv 4 (.t 13))]))
def pf_laws_toInsS : PF := ⟨[.t 2], .seq (.reg [.s (.mv 2 (.k (.v (.c (.nils .inst)))))]) (.seq (.reg [.s (.mv 5 (.t 0)), .s (.len 6 false (.t 5)), .s (.mkS 7 .inst (.t 6)), .s (.mv 3 (.t 7))]) (.seq (.seq (.reg [.s (.mv 4 (.k (.v (.c (.int .i64 0)))))]) (.blk 0 (.loop [0, 3, 4] lb_laws_toInsS_0))) (.seq (.reg [.s (.mv 22 (.t 3)), .s (.mv 2 (.t 22))]) (.ret))))⟩
def c_laws_toInsS : Fun := ⟨9, [], fun ts K => as1 ts fun t0 => arC (pL .inst) t0 fun a => chk (a.length ≤ 2147483647) (K (tL true .inst a) [])⟩
theorem run_laws_toInsS (a : List (FT.Ty .inst)) (hpre : a.length ≤ 2147483647) : runK [c_laws_toIns] (a.length + 1) [] pf_laws_toInsS [tL false .inst a] fun r o => r = tL true .inst a ∧ o = [] := by
  conv => whnf
  refine chk_i ⟨by omega, by omega⟩ ?_
  conv => whnf
  refine loop (α := Nat × List (FT.Ty .inst)) (fun p => ⟨[(0, .v (.c (.sl false .inst 0))), (3, .v (.c (.sl true .inst 1))), (4, .v (.c (.int .i64 (p.1 : Int))))], [(1, some (.flat true .inst none p.2)), (0, some (.flat false .inst none a))], nums.tail.tail, [], false, []⟩)
      (fun p => p.1 ≤ a.length ∧ p.2 = a.take p.1 ++ (List.replicate a.length (FT.zero .inst)).drop p.1) (fun p => a.length - p.1) (fun p R hI hR => ?_) (0, List.replicate a.length (FT.zero .inst)) _ ⟨by simp, by simp⟩ (by simp)
  obtain ⟨i, xs⟩ := p
  obtain ⟨hi, hx⟩ := hI
  dsimp only at hi hx
  have hlen : xs.length = a.length := by rw [hx]; simp; omega
  dsimp only
  conv => whnf
  refine sel_i (fun h2 => ?_) (fun h2 => ?_)
  · have hlt : i < a.length := by simp at h2; omega
    have hge : a[i]? = some (a.getD i (FT.zero .inst)) := by simp [List.getD_eq_getElem?_getD, hlt]
    conv => whnf
    repeat' (refine chk_c ?_ ?_ <;> conv => whnf)
    all_goals first
      | (refine ⟨?_⟩; omega)
      | (refine ⟨?_⟩; simp; done)
      | (refine ⟨?_⟩; simp; omega)
      | skip
    simp (disch := omega) only [wrap_id, Int.toNat_natCast]
    exact hR (i + 1, xs.set i (a.getD i (FT.zero .inst))) ⟨by omega, by rw [hx]; exact set_mid (by simp) (by simpa using hlt) hge⟩ (by simp; omega)
  · have hge : i = a.length := by simp at h2; omega
    subst hge
    conv => whnf
    refine ⟨?_, rfl⟩
    rw [hx, List.take_of_length_le (by omega), List.drop_eq_nil_of_le (by simp), List.append_nil]
theorem ok_laws_toInsS : FunOk Tryz.prog c_laws_toInsS := funOk (E := [c_laws_toIns]) (envOk_cons ok_laws_toIns (envOk_nil)) mixd Tryz.func9 (pf := pf_laws_toInsS) (by kernel_rfl) fun ts K h => by
  obtain ⟨t0, e0, h⟩ := as1_out h
  subst e0
  obtain ⟨a, e1, hq⟩ := arC_out (rd_l .inst) h
  clear h
  subst e1
  have h := hq
  clear hq
  obtain ⟨hpre, h⟩ := chk_o h
  exact ⟨_, _, h, Nat.le_of_ble_eq_true (show Nat.ble 1 Tryz.f9.ntmps = true by kernel_rfl), _, run_laws_toInsS a hpre⟩

def lb_laws_toIntS_0 : PC := .seq (.seq (.reg [.s (.mv 8 (.t 4)), .s (.mv 9 (.t 0)), .s (.len 10 false (.t 9)), .s (.bin 11 .lss (.t 8) (.t 10))]) (.cond (.t 11) (.skip) (.exit 0))) (.seq (.blk 1 (.reg [.s (.mv 14 (.t 3)), .s (.mv 15 (.t 4)), .s (.mv 16 (.t 0)), .s (.mv 17 (.t 4)), .s (.ia 18 (.int .i64) (.t 16) (.t 17)), .s (.load 19 false 1 (.t 18)), .s (.ia 20 (.int .i64) (.t 14) (.t 15)), .s (.store 1 (.t 20) (.t 19))])) (.reg [.s (.mv 12 (.t 4)), .s (.bin 13 .add (.t 12) (.k (.v (.c (.int .i64 1))))), .s (.mv 4 (.t 13))]))
def pf_laws_toIntS : PF := ⟨[.t 2], .seq (.reg [.s (.mv 2 (.k (.v (.c (.nils (.int .i64))))))]) (.seq (.reg [.s (.mv 5 (.t 0)), .s (.len 6 false (.t 5)), .s (.mkS 7 (.int .i64) (.t 6)), .s (.mv 3 (.t 7))]) (.seq (.seq (.reg [.s (.mv 4 (.k (.v (.c (.int .i64 0)))))]) (.blk 0 (.loop [0, 3, 4] lb_laws_toIntS_0))) (.seq (.reg [.s (.mv 21 (.t 3)), .s (.mv 2 (.t 21))]) (.ret))))⟩
def c_laws_toIntS : Fun := ⟨24, [], fun ts K => as1 ts fun t0 => arC (pL (.int .i64)) t0 fun a => chk (a.length ≤ 2147483647) (K (tL true (.int .i64) a) [])⟩
theorem run_laws_toIntS (a : List (FT.Ty (.int .i64))) (hpre : a.length ≤ 2147483647) : runK [] (a.length + 1) [] pf_laws_toIntS [tL false (.int .i64) a] fun r o => r = tL true (.int .i64) a ∧ o = [] := by
  conv => whnf
  refine chk_i ⟨by omega, by omega⟩ ?_
  conv => whnf
  refine loop (α := Nat × List (FT.Ty (.int .i64))) (fun p => ⟨[(0, .v (.c (.sl false (.int .i64) 0))), (3, .v (.c (.sl true (.int .i64) 1))), (4, .v (.c (.int .i64 (p.1 : Int))))], [(1, some (.flat true (.int .i64) none p.2)), (0, some (.flat false (.int .i64) none a))], nums.tail.tail, [], false, []⟩)
      (fun p => p.1 ≤ a.length ∧ p.2 = a.take p.1 ++ (List.replicate a.length (FT.zero (.int .i64))).drop p.1) (fun p => a.length - p.1) (fun p R hI hR => ?_) (0, List.replicate a.length (FT.zero (.int .i64))) _ ⟨by simp, by simp⟩ (by simp)
  obtain ⟨i, xs⟩ := p
  obtain ⟨hi, hx⟩ := hI
  dsimp only at hi hx
  have hlen : xs.length = a.length := by rw [hx]; simp; omega
  dsimp only
  conv => whnf
  refine sel_i (fun h2 => ?_) (fun h2 => ?_)
  · have hlt : i < a.length := by simp at h2; omega
    have hge : a[i]? = some (a.getD i (FT.zero (.int .i64))) := by simp [List.getD_eq_getElem?_getD, hlt]
    conv => whnf
    repeat' (refine chk_c ?_ ?_ <;> conv => whnf)
    all_goals first
      | (refine ⟨?_⟩; omega)
      | (refine ⟨?_⟩; simp; done)
      | (refine ⟨?_⟩; simp; omega)
      | skip
    simp (disch := omega) only [wrap_id, Int.toNat_natCast]
    exact hR (i + 1, xs.set i (a.getD i (FT.zero (.int .i64)))) ⟨by omega, by rw [hx]; exact set_mid (by simp) (by simpa using hlt) hge⟩ (by simp; omega)
  · have hge : i = a.length := by simp at h2; omega
    subst hge
    conv => whnf
    refine ⟨?_, rfl⟩
    rw [hx, List.take_of_length_le (by omega), List.drop_eq_nil_of_le (by simp), List.append_nil]
theorem ok_laws_toIntS : FunOk Tryz.prog c_laws_toIntS := funOk (E := []) (envOk_nil) mixd Tryz.func24 (pf := pf_laws_toIntS) (by kernel_rfl) fun ts K h => by
  obtain ⟨t0, e0, h⟩ := as1_out h
  subst e0
  obtain ⟨a, e1, hq⟩ := arC_out (rd_l (.int .i64)) h
  clear h
  subst e1
  have h := hq
  clear hq
  obtain ⟨hpre, h⟩ := chk_o h
  exact ⟨_, _, h, Nat.le_of_ble_eq_true (show Nat.ble 1 Tryz.f24.ntmps = true by kernel_rfl), _, run_laws_toIntS a hpre⟩

def szState (s : State) (k : Int) : Int := szB (szr k s.regs.length) fun k => szMem s.mem k
theorem szMem_ge (m : Mem) {k : Int} (h : 0 ≤ k) : -1 ≤ szMem m k := by
  unfold szMem szB; split
  · omega
  · exact szr_ge
theorem szState_n {s : State} {k : Int} (h0 : k ≤ 1048576) (h : 0 ≤ szState s k) : LState s 1048576 := by
  obtain ⟨h1, h2, _⟩ := szB_pos h
  have h4 := szr_n h1
  have h5 := szMem_n (by omega) h2
  exact ⟨by omega, h5.1⟩
theorem LState.mono {t : State} {n m : Nat} (h : LState t n) (k : n ≤ m) : LState t m := ⟨Nat.le_trans h.1 k, Nat.le_trans h.2.1 k, Nat.le_trans h.2.2 k⟩
theorem lState_of {t : State} (h : WState t) : LState t 9223372036854775807 := ⟨h.1.2, h.2.2.1.1.2, h.2.2.1.2.2⟩
def seenOf (l : List Inst) (s : State) : Seen × Bool :=
  if stateOk s = false ∨ s.trap ≠ 0 then (⟨0, 0, 0, 0⟩, false) else (⟨s.pc.n, (effE l s).r, (effE l s).addr, (effE l s).trap⟩, true)
theorem seenOf_no {l : List Inst} {s : State} (h : stateOk s = false) : seenOf l s = (⟨0, 0, 0, 0⟩, false) := if_pos (.inl h)
theorem seenOf_t {l : List Inst} {s : State} (h : ¬ s.trap = 0) : seenOf l s = (⟨0, 0, 0, 0⟩, false) := if_pos (.inr h)
theorem seenOf_0 {l : List Inst} {s : State} (h : stateOk s = true) (h2 : s.trap = 0) : seenOf l s = (⟨s.pc.n, (effE l s).r, (effE l s).addr, (effE l s).trap⟩, true) :=
  if_neg (by rintro (q | q); · rw [h] at q; cases q
             · exact q h2)

def pf_laws_szState : PF := ⟨[.t 4], .seq (.reg [.s (.box 2 (.t 0)), .s (.mv 4 (.k (.v (.c (.int .i64 0)))))]) (.seq (.reg [.s (.fa 5 (.t 2) 0), .s (.load 6 false 1 (.t 5)), .s (.mv 7 (.t 1)), .s (.call (some 8) 28 [(.t 6), (.t 7)]), .s (.mv 1 (.t 8))]) (.seq (.seq (.reg [.s (.mv 9 (.t 1)), .s (.bin 10 .lss (.t 9) (.k (.v (.c (.int .i64 0)))))]) (.cond (.t 10) (.seq (.reg [.s (.mv 4 (.k (.v (.c (.int .i64 (-1))))))]) (.ret)) (.skip))) (.seq (.reg [.s (.fa 11 (.t 2) 7), .s (.load 12 true 2 (.t 11)), .s (.mv 13 (.t 1)), .s (.call (some 14) 29 [(.t 12), (.t 13)]), .s (.mv 1 (.t 14))]) (.seq (.seq (.reg [.s (.mv 15 (.t 1)), .s (.bin 16 .lss (.t 15) (.k (.v (.c (.int .i64 0)))))]) (.cond (.t 16) (.seq (.reg [.s (.mv 4 (.k (.v (.c (.int .i64 (-1))))))]) (.ret)) (.skip))) (.seq (.reg [.s (.mv 17 (.t 1)), .s (.mv 4 (.t 17))]) (.ret))))))⟩
def c_laws_szState : Fun := ⟨7, [], fun ts K => as2 ts fun t0 t1 => arG pStateT t0 fun m => arC (pI .i64) t1 fun k => chk (LState m 9223372036854775807 ∧ 0 ≤ k ∧ k ≤ 1048576) (K (tN (szState m k)) [])⟩
theorem run_laws_szState (m : State) (k : Int) (hpre : LState m 9223372036854775807 ∧ 0 ≤ k ∧ k ≤ 1048576) : runK [c_laws_szWordS, c_laws_szMemory] (0) [] pf_laws_szState [tG (m.tc false []), tI .i64 k] fun r o => r = tN (szState m k) ∧ o = [] := by
  obtain ⟨⟨l1, l2⟩, hk, hk2⟩ := hpre
  have h0 := szr_le (n := m.regs.length) hk
  conv => whnf
  refine chk_i ⟨l1, hk, hk2⟩ ?_
  conv => whnf
  refine sel_i (fun h => ?_) (fun h => ?_)
  · conv => whnf
    refine ⟨?_, rfl⟩; simp at h; simp [szState, szB, h]
  · have h : 0 ≤ szr k m.regs.length := by simpa using h
    conv => whnf
    refine chk_i ⟨l2, h, show szr k m.regs.length ≤ _ by omega⟩ ?_
    conv => whnf
    repeat' (first | (refine sel_i (fun h => ?_) (fun h => ?_) <;> conv => whnf) | (refine chk_c ?_ ?_ <;> conv => whnf) | (refine And.intro ?_ rfl) | (refine And.intro ?_ ?_ <;> conv => whnf))
    · have h3 : szMem m.mem (szr k m.regs.length) < 0 := by simpa [etaMemory] using h
      have h4 := szMem_ge m.mem (k := szr k m.regs.length) (by assumption)
      have e : szState m k = szMem m.mem (szr k m.regs.length) := by unfold szState szB; rw [if_neg (by omega)]
      rw [e, show szMem m.mem (szr k m.regs.length) = -1 by omega]
    · have e : szState m k = szMem m.mem (szr k m.regs.length) := by unfold szState szB; rw [if_neg (by omega)]
      rw [e]
theorem ok_laws_szState : FunOk Tryz.prog c_laws_szState := funOk (E := [c_laws_szWordS, c_laws_szMemory]) (envOk_cons ok_laws_szWordS (envOk_cons ok_laws_szMemory (envOk_nil))) mixd Tryz.func7 (pf := pf_laws_szState) (by kernel_rfl) fun ts K h => by
  obtain ⟨t0, t1, e0, h⟩ := as2_out h
  subst e0
  obtain ⟨m, e1, hq⟩ := arG_out rd_state h
  clear h
  subst e1
  have h := hq
  clear hq
  obtain ⟨k, e1, hq⟩ := arC_out (rd_int .i64) h
  clear h
  subst e1
  have h := hq
  clear hq
  obtain ⟨hpre, h⟩ := chk_o h
  exact ⟨_, _, h, Nat.le_of_ble_eq_true (show Nat.ble 2 Tryz.f7.ntmps = true by kernel_rfl), _, run_laws_szState m k hpre⟩

def pf_laws_toState : PF := ⟨[.c 2 true 10], .seq (.reg [.s (.box 1 (.t 0)), .s (.alloc 2 [.nils .word, .int .i64 0, .ff, .int .i64 0, .int .i64 0, .int .i64 0, .int .i64 0, .nils .word, .nils .bool, .int .i64 0])]) (.seq (.reg [.s (.alloc 3 [.nils .word, .int .i64 0, .ff, .int .i64 0, .int .i64 0, .int .i64 0, .int .i64 0, .nils .word, .nils .bool, .int .i64 0])]) (.seq (.reg [.s (.fa 4 (.t 1) 0), .s (.load 5 false 1 (.t 4)), .s (.call (some 6) 35 [(.t 5)]), .s (.fa 7 (.t 3) 0), .s (.store 1 (.t 7) (.t 6))]) (.seq (.reg [.s (.fa 8 (.t 1) 1), .s (.load 9 true 6 (.t 8)), .s (.call (some 10) 36 [(.t 9)]), .s (.fa 11 (.t 3) 1), .s (.store 6 (.t 11) (.t 10))]) (.seq (.reg [.s (.fa 12 (.t 1) 7), .s (.load 13 true 2 (.t 12)), .s (.call (some 14) 37 [(.t 13)]), .s (.fa 15 (.t 3) 7), .s (.store 2 (.t 15) (.t 14))]) (.seq (.reg [.s (.fa 16 (.t 1) 9), .s (.load 17 false 1 (.t 16)), .s (.fa 18 (.t 3) 9), .s (.store 1 (.t 18) (.t 17))]) (.seq (.reg [.s (.load 19 true 10 (.t 3)), .s (.store 10 (.t 2) (.t 19))]) (.ret)))))))⟩
def c_laws_toState : Fun := ⟨10, [], fun ts K => as1 ts fun t0 => arG pStateT t0 fun m => chk (LState m 2147483647) (K (tG (m.tc true [])) [])⟩
theorem run_laws_toState (m : State) (hpre : LState m 2147483647) : runK [c_laws_toWordS, c_laws_toWord, c_laws_toMemory] (0) [] pf_laws_toState [tG (m.tc false [])] fun r o => r = tG (m.tc true []) ∧ o = [] := by
  obtain ⟨l1, l2, l3⟩ := hpre
  conv => whnf
  repeat' (first | (refine chk_c ?_ ?_ <;> conv => whnf) | (refine And.intro ?_ ?_ <;> conv => whnf))
  all_goals first
    | (refine ⟨?_⟩; omega)
    | (refine ⟨?_⟩; simp; done)
    | (refine ⟨?_⟩; simp [LMem, LTwo] at *; omega)
    | rfl
    | exact True.intro
    | exact ⟨rfl, rfl⟩
theorem ok_laws_toState : FunOk Tryz.prog c_laws_toState := funOk (E := [c_laws_toWordS, c_laws_toWord, c_laws_toMemory]) (envOk_cons ok_laws_toWordS (envOk_cons ok_laws_toWord (envOk_cons ok_laws_toMemory (envOk_nil)))) mixd Tryz.func10 (pf := pf_laws_toState) (by kernel_rfl) fun ts K h => by
  obtain ⟨t0, e0, h⟩ := as1_out h
  subst e0
  obtain ⟨m, e1, hq⟩ := arG_out rd_state h
  clear h
  subst e1
  have h := hq
  clear hq
  obtain ⟨hpre, h⟩ := chk_o h
  exact ⟨_, _, h, Nat.le_of_ble_eq_true (show Nat.ble 1 Tryz.f10.ntmps = true by kernel_rfl), _, run_laws_toState m hpre⟩

def pf_laws_eqSeen : PF := ⟨[.t 4], .seq (.reg [.s (.box 2 (.t 0)), .s (.box 3 (.t 1)), .s (.mv 4 (.k (.v (.c .ff))))]) (.seq (.seq (.reg [.s (.fa 5 (.t 2) 0), .s (.load 6 false 1 (.t 5)), .s (.fa 7 (.t 3) 0), .s (.load 8 false 1 (.t 7)), .s (.bin 9 .neq (.t 6) (.t 8))]) (.cond (.t 9) (.seq (.reg [.s (.mv 4 (.k (.v (.c .ff))))]) (.ret)) (.skip))) (.seq (.seq (.reg [.s (.fa 10 (.t 2) 1), .s (.load 11 false 1 (.t 10)), .s (.fa 12 (.t 3) 1), .s (.load 13 false 1 (.t 12)), .s (.bin 14 .neq (.t 11) (.t 13))]) (.cond (.t 14) (.seq (.reg [.s (.mv 4 (.k (.v (.c .ff))))]) (.ret)) (.skip))) (.seq (.seq (.reg [.s (.fa 15 (.t 2) 2), .s (.load 16 false 1 (.t 15)), .s (.fa 17 (.t 3) 2), .s (.load 18 false 1 (.t 17)), .s (.bin 19 .neq (.t 16) (.t 18))]) (.cond (.t 19) (.seq (.reg [.s (.mv 4 (.k (.v (.c .ff))))]) (.ret)) (.skip))) (.seq (.seq (.reg [.s (.fa 20 (.t 2) 3), .s (.load 21 false 1 (.t 20)), .s (.fa 22 (.t 3) 3), .s (.load 23 false 1 (.t 22)), .s (.bin 24 .neq (.t 21) (.t 23))]) (.cond (.t 24) (.seq (.reg [.s (.mv 4 (.k (.v (.c .ff))))]) (.ret)) (.skip))) (.seq (.reg [.s (.mv 4 (.k (.v (.c .tt))))]) (.ret))))))⟩
def c_laws_eqSeen : Fun := ⟨12, [], fun ts K => as2 ts fun t0 t1 => arG pSeenT t0 fun a => arG pSeenT t1 fun b => K (tB (decide (a = b))) []⟩
theorem run_laws_eqSeen (a : Seen) (b : Seen) : runK [] (0) [] pf_laws_eqSeen [tG (a.tc []), tG (b.tc [])] fun r o => r = tB (decide (a = b)) ∧ o = [] := by
  obtain ⟨a1, a2, a3, a4⟩ := a
  obtain ⟨b1, b2, b3, b4⟩ := b
  conv => whnf
  repeat' (first | (refine sel_i (fun h => ?_) (fun h => ?_) <;> conv => whnf) | (refine chk_c ?_ ?_ <;> conv => whnf) | (refine And.intro ?_ rfl) | (refine And.intro ?_ ?_ <;> conv => whnf))
  all_goals (simp at *; simp [*])
theorem ok_laws_eqSeen : FunOk Tryz.prog c_laws_eqSeen := funOk (E := []) (envOk_nil) mixd Tryz.func12 (pf := pf_laws_eqSeen) (by kernel_rfl) fun ts K h => by
  obtain ⟨t0, t1, e0, h⟩ := as2_out h
  subst e0
  obtain ⟨a, e1, hq⟩ := arG_out rd_seen h
  clear h
  subst e1
  have h := hq
  clear hq
  obtain ⟨b, e1, hq⟩ := arG_out rd_seen h
  clear h
  subst e1
  have h := hq
  clear hq
  exact ⟨_, _, h, Nat.le_of_ble_eq_true (show Nat.ble 2 Tryz.f12.ntmps = true by kernel_rfl), _, run_laws_eqSeen a b⟩

theorem workE_0 {x : Inst} {pc a b got : Word} (h : (workE x pc a b got).trap = 0) :
    (workE x pc a b got).r = setsI x ∧ (workE x pc a b got).addr = if x.op = 11 then IntKind.i64.wrap (a.n + x.n) else -1 := by
  by_cases h1 : x.op = 11
  · have e : setsI x = -1 := by unfold setsI; rw [h1, if_pos (by decide)]
    rw [e]; unfold workE; rw [if_pos h1, if_pos h1]; exact ⟨rfl, rfl⟩
  rw [if_neg h1]
  by_cases h2 : x.op = 12
  · have e : setsI x = x.r := by unfold setsI; rw [h2, if_neg (by decide)]
    rw [e]; unfold workE at h ⊢; rw [if_neg h1, if_pos h2] at h ⊢
    by_cases h3 : tryW a a.n 4 ≠ 0
    · rw [if_pos h3] at h; exact absurd h h3
    · rw [if_neg h3]; exact ⟨rfl, rfl⟩
  by_cases h3 : x.op = 13
  · have e : setsI x = -1 := by unfold setsI; rw [h3, if_pos (by decide)]
    rw [e]; unfold workE; rw [if_neg h1, if_neg h2, if_pos h3]; exact ⟨rfl, rfl⟩
  by_cases h4 : x.op = 14
  · have e : setsI x = -1 := by unfold setsI; rw [h4, if_pos (by decide)]
    rw [e]; unfold workE at h ⊢; rw [if_neg h1, if_neg h2, if_neg h3, if_pos h4] at h ⊢
    by_cases h5 : tryW a a.n 32 ≠ 0
    · rw [if_pos h5] at h; exact absurd h h5
    · rw [if_neg h5]; exact ⟨rfl, rfl⟩
  by_cases h5 : x.op = 15
  · unfold workE at h; rw [if_neg h1, if_neg h2, if_neg h3, if_neg h4, if_pos h5] at h; cases h
  by_cases h6 : 0 ≤ setsI x
  · rw [workE_pos h1 h2 h3 h4 h5 h6]; exact ⟨rfl, rfl⟩
  · rw [workE_neg h1 h2 h3 h4 h5 h6]; exact ⟨rfl, rfl⟩
theorem workE_t {x : Inst} {pc a b got : Word} (h : ¬ (workE x pc a b got).trap = 0) : (workE x pc a b got).r = -1 ∧ (workE x pc a b got).addr = -1 := by
  unfold workE at h ⊢
  repeat' (first | (exact ⟨rfl, rfl⟩) | (exact absurd rfl h) | split at h)
  all_goals simp_all [trapE]
theorem effE_0 {l : List Inst} {s : State} (h : (effE l s).trap = 0) : (fetchI l s.pc).2 = 0 ∧ (effE l s).r = setsI (fetchI l s.pc).1 ∧
    (effE l s).addr = if (fetchI l s.pc).1.op = 11 then IntKind.i64.wrap ((s.regs.getD (fetchI l s.pc).1.a.toNat (FT.zero .word)).n + (fetchI l s.pc).1.n) else -1 := by
  by_cases h1 : (fetchI l s.pc).2 = 0
  · refine ⟨h1, ?_⟩
    unfold effE at h ⊢
    simp only at h ⊢
    rw [if_neg (by simpa using h1)] at h ⊢
    split at h
    · rename_i h2; exact absurd h h2
    · rename_i h2; rw [if_neg h2]; exact workE_0 h
  · unfold effE at h; simp only at h; rw [if_pos h1] at h; exact absurd h h1
theorem effE_t {l : List Inst} {s : State} (h : ¬ (effE l s).trap = 0) : (effE l s).r = -1 ∧ (effE l s).addr = -1 := by
  unfold effE at h ⊢
  simp only at h ⊢
  split at h
  · rename_i h1; rw [if_pos h1]; exact ⟨rfl, rfl⟩
  · rename_i h1; rw [if_neg h1]
    split at h
    · rename_i h2; rw [if_pos h2]; exact ⟨rfl, rfl⟩
    · rename_i h2; rw [if_neg h2]; exact workE_t h
theorem stepS_tr {l : List Inst} {s : State} (h : stateOk s = true) (h2 : s.trap = 0) : (stepS l s).trap = (effE l s).trap := by
  by_cases h3 : (effE l s).trap = 0
  · rw [stepS_0 h h2 h3, h3]; exact h2
  · rw [stepS_e h h2 h3]

def pf_impl_SeenOf : PF := ⟨[.c 4 true 4, .t 5], .seq (.reg [.s (.box 3 (.t 1)), .s (.alloc 4 [.int .i64 0, .int .i64 0, .int .i64 0, .int .i64 0]), .s (.mv 5 (.k (.v (.c .ff))))]) (.seq (.seq (.reg [.s (.load 7 true 10 (.t 3)), .s (.call (some 8) 38 [(.t 7)]), .s (.bnot 9 (.t 8)), .s (.mv 10 (.t 9)), .g 10 false (some 11) (.fa 11 (.t 3) 9), .g 10 false (some 12) (.load 12 false 1 (.t 11)), .g 10 false (some 13) (.bin 13 .neq (.t 12) (.k (.v (.c (.int .i64 0))))), .s (.pick 14 (.t 10) (.k (.v (.c .tt))) (.t 13))]) (.cond (.t 14) (.seq (.reg [.s (.build 15 [.int .i64 0, .int .i64 0, .int .i64 0, .int .i64 0] []), .s (.store 4 (.t 4) (.t 15)), .s (.mv 5 (.k (.v (.c .ff))))]) (.ret)) (.skip))) (.seq (.reg [.s (.mv 16 (.t 0)), .s (.load 17 true 10 (.t 3)), .s (.call (some 18) 39 [(.t 16), (.t 17)]), .s (.alloc 6 [.int .i64 0, .int .i64 0, .int .i64 0, .ff, .int .i64 0, .int .i64 0, .int .i64 0, .int .i64 0, .int .i64 0, .ff, .int .i64 0, .int .i64 0, .int .i64 0, .int .i64 0, .int .i64 0, .int .i64 0, .ff, .int .i64 0, .int .i64 0, .int .i64 0, .int .i64 0, .int .i64 0]), .s (.store 22 (.t 6) (.t 18))]) (.seq (.reg [.s (.fa 19 (.t 3) 1), .s (.fa 20 (.t 19) 0), .s (.load 21 false 1 (.t 20)), .s (.fa 22 (.t 6) 1), .s (.load 23 false 1 (.t 22)), .s (.fa 24 (.t 6) 14), .s (.load 25 false 1 (.t 24)), .s (.fa 26 (.t 6) 0), .s (.load 27 false 1 (.t 26)), .s (.build 28 [.int .i64 0, .int .i64 0, .int .i64 0, .int .i64 0] [(0, 1, (.t 21)), (1, 1, (.t 23)), (2, 1, (.t 25)), (3, 1, (.t 27))]), .s (.store 4 (.t 4) (.t 28)), .s (.mv 5 (.k (.v (.c .tt))))]) (.ret))))⟩
def c_impl_SeenOf : Fun := ⟨11, [], fun ts K => as2 ts fun t0 t1 => arC (pL .inst) t0 fun l => arG pStateT t1 fun s => chk (l.length ≤ 2147483647 ∧ LState s 2147483647) (K (.tup [.g ((seenOf l s).1.tc []), T1.c (.bool (seenOf l s).2)]) [])⟩
theorem run_impl_SeenOf (l : List (FT.Ty .inst)) (s : State) (hpre : l.length ≤ 2147483647 ∧ LState s 2147483647) : runK [c_impl_StateOk, c_impl_effectOf] (0) [] pf_impl_SeenOf [tL false .inst l, tG (s.tc false [])] fun r o => r = .tup [.g ((seenOf l s).1.tc []), T1.c (.bool (seenOf l s).2)] ∧ o = [] := by
  obtain ⟨l1, l2⟩ := hpre
  conv => whnf
  repeat' (first | (refine sel_i (fun h => ?_) (fun h => ?_) <;> conv => whnf) | (refine chk_c ?_ ?_ <;> conv => whnf) | (refine And.intro ?_ rfl) | (refine And.intro ?_ ?_ <;> conv => whnf))
  all_goals (try simp only [etaKey, etaWord, etaInst, etaEff, etaMemory, etaState, bne_iff_ne, ne_eq, bne_eq_false_iff_eq, beq_iff_eq, beq_eq_false_iff_ne, Bool.not_eq_true', Bool.not_eq_false', decide_eq_true_eq, decide_eq_false_iff_not] at *)
  all_goals first
    | (refine ⟨?_⟩; assumption)
    | (refine ⟨?_⟩; exact ⟨l1, stateOk_len (by assumption)⟩)
    | (rw [seenOf_no (by assumption)]; rfl)
    | (rw [seenOf_t (by assumption)]; rfl)
    | (rw [seenOf_0 (by assumption) (by assumption)]; rfl)
    | trace_state
theorem ok_impl_SeenOf : FunOk Tryz.prog c_impl_SeenOf := funOk (E := [c_impl_StateOk, c_impl_effectOf]) (envOk_cons ok_impl_StateOk (envOk_cons ok_impl_effectOf (envOk_nil))) mixd Tryz.func11 (pf := pf_impl_SeenOf) (by kernel_rfl) fun ts K h => by
  obtain ⟨t0, t1, e0, h⟩ := as2_out h
  subst e0
  obtain ⟨l, e1, hq⟩ := arC_out (rd_l .inst) h
  clear h
  subst e1
  have h := hq
  clear hq
  obtain ⟨s, e1, hq⟩ := arG_out rd_state h
  clear h
  subst e1
  have h := hq
  clear hq
  obtain ⟨hpre, h⟩ := chk_o h
  exact ⟨_, _, h, Nat.le_of_ble_eq_true (show Nat.ble 2 Tryz.f11.ntmps = true by kernel_rfl), _, run_impl_SeenOf l s hpre⟩

def pf_spec_SeenOf : PF := ⟨[.c 4 true 4, .t 5], .seq (.reg [.s (.box 3 (.t 1)), .s (.alloc 4 [.int .i64 0, .int .i64 0, .int .i64 0, .int .i64 0]), .s (.mv 5 (.k (.v (.c .ff))))]) (.seq (.seq (.reg [.s (.load 10 true 10 (.t 3)), .s (.call (some 11) 30 [(.t 10)]), .s (.bnot 12 (.t 11)), .s (.mv 13 (.t 12)), .g 13 false (some 14) (.fa 14 (.t 3) 9), .g 13 false (some 15) (.load 15 false 1 (.t 14)), .g 13 false (some 16) (.bin 16 .neq (.t 15) (.k (.v (.c (.int .i64 0))))), .s (.pick 17 (.t 13) (.k (.v (.c .tt))) (.t 16))]) (.cond (.t 17) (.seq (.reg [.s (.build 18 [.int .i64 0, .int .i64 0, .int .i64 0, .int .i64 0] []), .s (.store 4 (.t 4) (.t 18)), .s (.mv 5 (.k (.v (.c .ff))))]) (.ret)) (.skip))) (.seq (.reg [.s (.fa 19 (.t 3) 1), .s (.fa 20 (.t 19) 0), .s (.load 21 false 1 (.t 20)), .s (.build 22 [.int .i64 0, .int .i64 0, .int .i64 0, .int .i64 0] [(0, 1, (.t 21)), (1, 1, (.k (.v (.c (.int .i64 (-1)))))), (2, 1, (.k (.v (.c (.int .i64 (-1))))))]), .s (.alloc 6 [.int .i64 0, .int .i64 0, .int .i64 0, .int .i64 0]), .s (.store 4 (.t 6) (.t 22))]) (.seq (.reg [.s (.mv 23 (.t 0)), .s (.load 24 true 10 (.t 3)), .s (.call (some 25) 31 [(.t 23), (.t 24)]), .s (.alloc 7 [.nils .word, .int .i64 0, .ff, .int .i64 0, .int .i64 0, .int .i64 0, .int .i64 0, .nils .word, .nils .bool, .int .i64 0]), .s (.store 10 (.t 7) (.t 25))]) (.seq (.reg [.s (.fa 26 (.t 7) 9), .s (.load 27 false 1 (.t 26)), .s (.fa 28 (.t 6) 3), .s (.store 1 (.t 28) (.t 27))]) (.seq (.reg [.s (.mv 30 (.t 0)), .s (.fa 31 (.t 3) 1), .s (.load 32 true 6 (.t 31)), .s (.call (some 33) 32 [(.t 30), (.t 32)]), .s (.mv 29 (.t 33)), .s (.ext 34 (.t 29) 0), .s (.ext 35 (.t 29) 1), .s (.alloc 8 [.int .i64 0, .int .i64 0, .int .i64 0, .int .i64 0, .int .i64 0]), .s (.store 5 (.t 8) (.t 34)), .s (.mv 9 (.t 35))]) (.seq (.seq (.reg [.s (.fa 36 (.t 7) 9), .s (.load 37 false 1 (.t 36)), .s (.bin 38 .eql (.t 37) (.k (.v (.c (.int .i64 0)))))]) (.cond (.t 38) (.seq (.reg [.s (.load 39 true 5 (.t 8)), .s (.call (some 40) 33 [(.t 39)]), .s (.fa 41 (.t 6) 1), .s (.store 1 (.t 41) (.t 40))]) (.seq (.reg [.s (.fa 42 (.t 8) 0), .s (.load 43 false 1 (.t 42)), .s (.bin 44 .eql (.t 43) (.k (.v (.c (.int .i64 11)))))]) (.cond (.t 44) (.rgd [.s (.fa 45 (.t 3) 0), .s (.load 46 false 1 (.t 45)), .s (.fa 47 (.t 8) 2), .s (.load 48 false 1 (.t 47)), .s (.ia 49 .word (.t 46) (.t 48)), .s (.fa 50 (.t 49) 0), .s (.load 51 false 1 (.t 50)), .s (.fa 52 (.t 8) 4), .s (.load 53 false 1 (.t 52)), .s (.bin 54 .add (.t 51) (.t 53)), .s (.fa 55 (.t 6) 2), .s (.store 1 (.t 55) (.t 54))] (.tk 0 (.tk 1 (.tk 2 (.tk 3 (.tk 4 (.tk 5 (.tk 6 (.tk 7 (.tk 8 (.tk 9 (.tk 10 (.one 11 true (.done none)))))))))))))) (.skip)))) (.skip))) (.seq (.reg [.s (.load 56 true 4 (.t 6)), .s (.store 4 (.t 4) (.t 56)), .s (.mv 5 (.k (.v (.c .tt))))]) (.ret))))))))⟩
def c_spec_SeenOf : Fun := ⟨8, [], fun ts K => as2 ts fun t0 t1 => arC (pL .inst) t0 fun l => arG pStateT t1 fun s => chk (l.length ≤ 2147483647 ∧ LState s 2147483647) (K (.tup [.g ((seenOf l s).1.tc []), T1.c (.bool (seenOf l s).2)]) [])⟩
theorem run_spec_SeenOf (l : List (FT.Ty .inst)) (s : State) (hpre : l.length ≤ 2147483647 ∧ LState s 2147483647) : runK [c_spec_StateOk, c_spec_Step, c_spec_Fetch, c_spec_Sets] (0) [] pf_spec_SeenOf [tL false .inst l, tG (s.tc false [])] fun r o => r = .tup [.g ((seenOf l s).1.tc []), T1.c (.bool (seenOf l s).2)] ∧ o = [] := by
  obtain ⟨l1, l2⟩ := hpre
  conv => whnf
  repeat' (first | (refine sel_i (fun h => ?_) (fun h => ?_) <;> conv => whnf) | (refine chk_c ?_ ?_ <;> conv => whnf) | (refine And.intro ?_ rfl) | (refine And.intro ?_ ?_ <;> conv => whnf))
  all_goals (try simp only [etaKey, etaWord, etaInst, etaEff, etaMemory, etaState, bne_iff_ne, ne_eq, bne_eq_false_iff_eq, beq_iff_eq, beq_eq_false_iff_ne, Bool.not_eq_true', Bool.not_eq_false', decide_eq_true_eq, decide_eq_false_iff_not] at *)
  all_goals first
    | (refine ⟨?_⟩; assumption)
    | (rw [seenOf_no (by assumption)]; rfl)
    | (rw [seenOf_t (by assumption)]; rfl)
    | (refine ⟨?_⟩; exact ⟨l1, l2⟩)
    | (refine ⟨?_⟩; rw [stepS_tr (by assumption) (by assumption)] at *; have hx := fetchI_in (effE_0 (by assumption)).1; have hl := (stateOk_len (by assumption)).1; omega)
    | (rw [stepS_tr (by assumption) (by assumption)] at *; rw [seenOf_0 (by assumption) (by assumption), (effE_0 (by assumption)).2.1, (effE_0 (by assumption)).2.2]; simp only [*, if_true, if_false]; rfl)
    | (rw [stepS_tr (by assumption) (by assumption)] at *; rw [seenOf_0 (by assumption) (by assumption), (effE_t (by assumption)).1, (effE_t (by assumption)).2]; rfl)
    | trace_state
theorem ok_spec_SeenOf : FunOk Tryz.prog c_spec_SeenOf := funOk (E := [c_spec_StateOk, c_spec_Step, c_spec_Fetch, c_spec_Sets]) (envOk_cons ok_spec_StateOk (envOk_cons ok_spec_Step (envOk_cons ok_spec_Fetch (envOk_cons ok_spec_Sets (envOk_nil))))) mixd Tryz.func8 (pf := pf_spec_SeenOf) (by kernel_rfl) fun ts K h => by
  obtain ⟨t0, t1, e0, h⟩ := as2_out h
  subst e0
  obtain ⟨l, e1, hq⟩ := arC_out (rd_l .inst) h
  clear h
  subst e1
  have h := hq
  clear hq
  obtain ⟨s, e1, hq⟩ := arG_out rd_state h
  clear h
  subst e1
  have h := hq
  clear hq
  obtain ⟨hpre, h⟩ := chk_o h
  exact ⟨_, _, h, Nat.le_of_ble_eq_true (show Nat.ble 2 Tryz.f8.ntmps = true by kernel_rfl), _, run_spec_SeenOf l s hpre⟩

def setSide (t : Two) (s : State) (who : Int) : Two :=
  if who = 1 then ⟨s.mem, t.a, ⟨s.regs, s.pc, s.trap⟩⟩ else ⟨s.mem, ⟨s.regs, s.pc, s.trap⟩, t.b⟩
def twoStep (a b : List Inst) (t : Two) (who : Int) : Two × Bool :=
  if twoOk t = false ∨ inR who 0 1 = false then (t, false) else (setSide t (stepS (if who = 1 then b else a) (sideState t who)) who, true)
theorem twoStep_no {a b : List Inst} {t : Two} {who : Int} (h : twoOk t = false) : twoStep a b t who = (t, false) := if_pos (.inl h)
theorem twoStep_w {a b : List Inst} {t : Two} {who : Int} (h : inR who 0 1 = false) : twoStep a b t who = (t, false) := if_pos (.inr h)
theorem twoStep_ok {a b : List Inst} {t : Two} {who : Int} (h : twoOk t = true) (h2 : inR who 0 1 = true) : twoStep a b t who = (setSide t (stepS (if who = 1 then b else a) (sideState t who)) who, true) :=
  if_neg (by rw [h, h2]; simp)
theorem twoStep_1 {a b : List Inst} {t : Two} {who : Int} (h : twoOk t = true) (h2 : inR who 0 1 = true) (h3 : who = 1) : twoStep a b t who = (⟨(stepS b (sideState t who)).mem, t.a, ⟨(stepS b (sideState t who)).regs, (stepS b (sideState t who)).pc, (stepS b (sideState t who)).trap⟩⟩, true) := by
  rw [twoStep_ok h h2, if_pos h3]; unfold setSide; rw [if_pos h3]
theorem twoStep_0 {a b : List Inst} {t : Two} {who : Int} (h : twoOk t = true) (h2 : inR who 0 1 = true) (h3 : ¬ who = 1) : twoStep a b t who = (⟨(stepS a (sideState t who)).mem, ⟨(stepS a (sideState t who)).regs, (stepS a (sideState t who)).pc, (stepS a (sideState t who)).trap⟩, t.b⟩, true) := by
  rw [twoStep_ok h h2, if_neg h3]; unfold setSide; rw [if_neg h3]

def pf_spec_l22Side : PF := ⟨[.c 2 true 8], .seq (.reg [.s (.box 1 (.t 0)), .s (.alloc 2 [.nils .word, .int .i64 0, .ff, .int .i64 0, .int .i64 0, .int .i64 0, .int .i64 0, .int .i64 0])]) (.seq (.rgd [.s (.bs 3 .word []), .s (.fa 4 (.t 1) 0), .s (.load 5 false 1 (.t 4)), .s (.app 6 .word (.t 3) (.t 5)), .s (.fa 7 (.t 1) 1), .s (.load 8 true 6 (.t 7)), .s (.fa 9 (.t 1) 7), .s (.load 10 false 1 (.t 9)), .s (.build 11 [.nils .word, .int .i64 0, .ff, .int .i64 0, .int .i64 0, .int .i64 0, .int .i64 0, .int .i64 0] [(0, 1, (.t 6)), (1, 6, (.t 8)), (7, 1, (.t 10))]), .s (.store 8 (.t 2) (.t 11))] (.tk 1 (.tk 2 (.tk 4 (.tk 5 (.tk 6 (.tk 7 (.one 0 false (.one 3 false (.tk 8 (.one 9 true (.done none)))))))))))) (.ret))⟩
def c_spec_l22Side : Fun := ⟨83, [], fun ts K => as1 ts fun t0 => arG pSideT t0 fun s => chk (s.regs.length ≤ 2147483647) (K (tG (s.tc true [])) [])⟩
theorem run_spec_l22Side (s : Side) (hpre : s.regs.length ≤ 2147483647) : runK [] (0) [] pf_spec_l22Side [tG (s.tc false [])] fun r o => r = tG (s.tc true []) ∧ o = [] := by
  conv => whnf
  repeat' (first | (refine chk_c ?_ ?_ <;> conv => whnf) | (refine And.intro ?_ ?_ <;> conv => whnf))
  all_goals first
    | (refine ⟨?_⟩; omega)
    | (refine ⟨?_⟩; simp; done)
    | (refine ⟨?_⟩; simp [LMem, LTwo] at *; omega)
    | rfl
    | exact True.intro
    | exact ⟨rfl, rfl⟩
theorem ok_spec_l22Side : FunOk Tryz.prog c_spec_l22Side := funOk (E := []) (envOk_nil) mixd Tryz.func83 (pf := pf_spec_l22Side) (by kernel_rfl) fun ts K h => by
  obtain ⟨t0, e0, h⟩ := as1_out h
  subst e0
  obtain ⟨s, e1, hq⟩ := arG_out rd_side h
  clear h
  subst e1
  have h := hq
  clear hq
  obtain ⟨hpre, h⟩ := chk_o h
  exact ⟨_, _, h, Nat.le_of_ble_eq_true (show Nat.ble 1 Tryz.f83.ntmps = true by kernel_rfl), _, run_spec_l22Side s hpre⟩

def pf_spec_l22Copy : PF := ⟨[.c 2 true 18], .seq (.reg [.s (.box 1 (.t 0)), .s (.alloc 2 [.nils .word, .nils .bool, .nils .word, .int .i64 0, .ff, .int .i64 0, .int .i64 0, .int .i64 0, .int .i64 0, .int .i64 0, .nils .word, .int .i64 0, .ff, .int .i64 0, .int .i64 0, .int .i64 0, .int .i64 0, .int .i64 0])]) (.seq (.rgd [.s (.fa 3 (.t 1) 0), .s (.load 4 true 2 (.t 3)), .s (.call (some 5) 82 [(.t 4)]), .s (.fa 6 (.t 1) 2), .s (.load 7 true 8 (.t 6)), .s (.call (some 8) 83 [(.t 7)]), .s (.fa 9 (.t 1) 10), .s (.load 10 true 8 (.t 9)), .s (.call (some 11) 83 [(.t 10)]), .s (.build 12 [.nils .word, .nils .bool, .nils .word, .int .i64 0, .ff, .int .i64 0, .int .i64 0, .int .i64 0, .int .i64 0, .int .i64 0, .nils .word, .int .i64 0, .ff, .int .i64 0, .int .i64 0, .int .i64 0, .int .i64 0, .int .i64 0] [(0, 2, (.t 5)), (2, 8, (.t 8)), (10, 8, (.t 11))]), .s (.store 18 (.t 2) (.t 12))] (.tk 0 (.tk 1 (.tk 3 (.tk 4 (.tk 6 (.tk 7 (.one 2 false (.one 5 false (.one 8 true (.tk 9 (.one 10 true (.done none))))))))))))) (.ret))⟩
def c_spec_l22Copy : Fun := ⟨45, [], fun ts K => as1 ts fun t0 => arG pTwoT t0 fun t => chk (LTwo t 2147483647) (K (tG (t.tc true [])) [])⟩
theorem run_spec_l22Copy (t : Two) (hpre : LTwo t 2147483647) : runK [c_spec_l8Copy, c_spec_l22Side] (0) [] pf_spec_l22Copy [tG (t.tc false [])] fun r o => r = tG (t.tc true []) ∧ o = [] := by
  obtain ⟨⟨l1, l4⟩, l2, l3⟩ := hpre
  conv => whnf
  repeat' (first | (refine chk_c ?_ ?_ <;> conv => whnf) | (refine And.intro ?_ ?_ <;> conv => whnf))
  all_goals first
    | (refine ⟨?_⟩; omega)
    | (refine ⟨?_⟩; simp; done)
    | (refine ⟨?_⟩; simp [LMem, LTwo] at *; omega)
    | rfl
    | exact True.intro
    | exact ⟨rfl, rfl⟩
theorem ok_spec_l22Copy : FunOk Tryz.prog c_spec_l22Copy := funOk (E := [c_spec_l8Copy, c_spec_l22Side]) (envOk_cons ok_spec_l8Copy (envOk_cons ok_spec_l22Side (envOk_nil))) mixd Tryz.func45 (pf := pf_spec_l22Copy) (by kernel_rfl) fun ts K h => by
  obtain ⟨t0, e0, h⟩ := as1_out h
  subst e0
  obtain ⟨t, e1, hq⟩ := arG_out rd_two h
  clear h
  subst e1
  have h := hq
  clear hq
  obtain ⟨hpre, h⟩ := chk_o h
  exact ⟨_, _, h, Nat.le_of_ble_eq_true (show Nat.ble 1 Tryz.f45.ntmps = true by kernel_rfl), _, run_spec_l22Copy t hpre⟩

def pf_impl_cloneTwo : PF := ⟨[.c 2 true 18], .seq (.reg [.s (.box 1 (.t 0)), .s (.alloc 2 [.nils .word, .nils .bool, .nils .word, .int .i64 0, .ff, .int .i64 0, .int .i64 0, .int .i64 0, .int .i64 0, .int .i64 0, .nils .word, .int .i64 0, .ff, .int .i64 0, .int .i64 0, .int .i64 0, .int .i64 0, .int .i64 0])]) (.seq (.reg [.s (.fa 3 (.t 1) 0), .s (.load 4 true 2 (.t 3)), .s (.call (some 5) 84 [(.t 4)]), .s (.fa 6 (.t 1) 0), .s (.store 2 (.t 6) (.t 5))]) (.seq (.rgd [.s (.fa 7 (.t 1) 2), .s (.fa 8 (.t 7) 0), .s (.load 9 false 1 (.t 8)), .s (.call (some 10) 85 [(.t 9)]), .s (.fa 11 (.t 1) 10), .s (.fa 12 (.t 11) 0), .s (.load 13 false 1 (.t 12)), .s (.call (some 14) 85 [(.t 13)]), .s (.fa 15 (.t 1) 2), .s (.fa 16 (.t 15) 0), .s (.store 1 (.t 16) (.t 10)), .s (.fa 17 (.t 1) 10), .s (.fa 18 (.t 17) 0), .s (.store 1 (.t 18) (.t 14))] (.tk 0 (.tk 1 (.tk 2 (.tk 4 (.tk 5 (.tk 6 (.one 3 false (.tk 8 (.tk 9 (.one 7 true (.one 10 true (.tk 11 (.tk 12 (.one 13 true (.done none)))))))))))))))) (.seq (.reg [.s (.load 19 true 18 (.t 1)), .s (.store 18 (.t 2) (.t 19))]) (.ret))))⟩
def c_impl_cloneTwo : Fun := ⟨50, [], fun ts K => as1 ts fun t0 => arG pTwoT t0 fun t => chk (LTwo t 2147483647) (K (tG (t.tc true [])) [])⟩
theorem run_impl_cloneTwo (t : Two) (hpre : LTwo t 2147483647) : runK [c_impl_cloneMemory, c_slices_Clone_Word] (0) [] pf_impl_cloneTwo [tG (t.tc false [])] fun r o => r = tG (t.tc true []) ∧ o = [] := by
  obtain ⟨⟨l1, l4⟩, l2, l3⟩ := hpre
  conv => whnf
  repeat' (first | (refine chk_c ?_ ?_ <;> conv => whnf) | (refine And.intro ?_ ?_ <;> conv => whnf))
  all_goals first
    | (refine ⟨?_⟩; omega)
    | (refine ⟨?_⟩; simp; done)
    | (refine ⟨?_⟩; simp [LMem, LTwo] at *; omega)
    | rfl
    | exact True.intro
    | exact ⟨rfl, rfl⟩
theorem ok_impl_cloneTwo : FunOk Tryz.prog c_impl_cloneTwo := funOk (E := [c_impl_cloneMemory, c_slices_Clone_Word]) (envOk_cons ok_impl_cloneMemory (envOk_cons ok_slices_Clone_Word (envOk_nil))) mixd Tryz.func50 (pf := pf_impl_cloneTwo) (by kernel_rfl) fun ts K h => by
  obtain ⟨t0, e0, h⟩ := as1_out h
  subst e0
  obtain ⟨t, e1, hq⟩ := arG_out rd_two h
  clear h
  subst e1
  have h := hq
  clear hq
  obtain ⟨hpre, h⟩ := chk_o h
  exact ⟨_, _, h, Nat.le_of_ble_eq_true (show Nat.ble 1 Tryz.f50.ntmps = true by kernel_rfl), _, run_impl_cloneTwo t hpre⟩

def pf_spec_TwoStep : PF := ⟨[.c 8 true 18, .t 9], .seq (.reg [.s (.box 6 (.t 2)), .s (.alloc 8 [.nils .word, .nils .bool, .nils .word, .int .i64 0, .ff, .int .i64 0, .int .i64 0, .int .i64 0, .int .i64 0, .int .i64 0, .nils .word, .int .i64 0, .ff, .int .i64 0, .int .i64 0, .int .i64 0, .int .i64 0, .int .i64 0]), .s (.mv 9 (.k (.v (.c .ff))))]) (.seq (.reg [.s (.load 14 true 18 (.t 6)), .s (.call (some 15) 45 [(.t 14)]), .s (.alloc 10 [.nils .word, .nils .bool, .nils .word, .int .i64 0, .ff, .int .i64 0, .int .i64 0, .int .i64 0, .int .i64 0, .int .i64 0, .nils .word, .int .i64 0, .ff, .int .i64 0, .int .i64 0, .int .i64 0, .int .i64 0, .int .i64 0]), .s (.store 18 (.t 10) (.t 15))]) (.seq (.seq (.reg [.s (.load 16 true 18 (.t 6)), .s (.call (some 17) 46 [(.t 16)]), .s (.bnot 18 (.t 17)), .s (.mv 19 (.t 18)), .g 19 false (some 20) (.mv 20 (.t 3)), .g 19 false (some 21) (.call (some 21) 47 [(.t 20), (.k (.v (.c (.int .i64 0)))), (.k (.v (.c (.int .i64 1))))]), .g 19 false (some 22) (.bnot 22 (.t 21)), .s (.pick 23 (.t 19) (.k (.v (.c .tt))) (.t 22))]) (.cond (.t 23) (.seq (.reg [.s (.load 24 true 18 (.t 10)), .s (.store 18 (.t 8) (.t 24)), .s (.mv 9 (.k (.v (.c .ff))))]) (.ret)) (.skip))) (.seq (.reg [.s (.mv 25 (.t 0)), .s (.mv 11 (.t 25))]) (.seq (.seq (.reg [.s (.mv 26 (.t 3)), .s (.bin 27 .eql (.t 26) (.k (.v (.c (.int .i64 1)))))]) (.cond (.t 27) (.reg [.s (.mv 28 (.t 1)), .s (.mv 11 (.t 28))]) (.skip))) (.seq (.reg [.s (.mv 29 (.t 11)), .s (.load 30 true 18 (.t 6)), .s (.mv 31 (.t 3)), .s (.call (some 32) 48 [(.t 30), (.t 31)]), .s (.call (some 33) 31 [(.t 29), (.t 32)]), .s (.alloc 12 [.nils .word, .int .i64 0, .ff, .int .i64 0, .int .i64 0, .int .i64 0, .int .i64 0, .nils .word, .nils .bool, .int .i64 0]), .s (.store 10 (.t 12) (.t 33))]) (.seq (.reg [.s (.fa 34 (.t 12) 7), .s (.load 35 true 2 (.t 34)), .s (.fa 36 (.t 10) 0), .s (.store 2 (.t 36) (.t 35))]) (.seq (.reg [.s (.fa 37 (.t 12) 0), .s (.load 38 false 1 (.t 37)), .s (.fa 39 (.t 12) 1), .s (.load 40 true 6 (.t 39)), .s (.fa 41 (.t 12) 9), .s (.load 42 false 1 (.t 41)), .s (.build 43 [.nils .word, .int .i64 0, .ff, .int .i64 0, .int .i64 0, .int .i64 0, .int .i64 0, .int .i64 0] [(0, 1, (.t 38)), (1, 6, (.t 40)), (7, 1, (.t 42))]), .s (.alloc 13 [.nils .word, .int .i64 0, .ff, .int .i64 0, .int .i64 0, .int .i64 0, .int .i64 0, .int .i64 0]), .s (.store 8 (.t 13) (.t 43))]) (.seq (.seq (.reg [.s (.mv 44 (.t 3)), .s (.bin 45 .eql (.t 44) (.k (.v (.c (.int .i64 1)))))]) (.cond (.t 45) (.reg [.s (.load 46 true 8 (.t 13)), .s (.fa 47 (.t 10) 10), .s (.store 8 (.t 47) (.t 46))]) (.reg [.s (.load 48 true 8 (.t 13)), .s (.fa 49 (.t 10) 2), .s (.store 8 (.t 49) (.t 48))]))) (.seq (.reg [.s (.load 50 true 18 (.t 10)), .s (.store 18 (.t 8) (.t 50)), .s (.mv 9 (.k (.v (.c .tt))))]) (.ret))))))))))⟩
def c_spec_TwoStep : Fun := ⟨16, [], fun ts K => as4 ts fun t0 t1 t2 t3 => arC (pL .inst) t0 fun a => arC (pL .inst) t1 fun b => arG pTwoT t2 fun t => arC (pI .i64) t3 fun who => chk (a.length ≤ 2147483647 ∧ b.length ≤ 2147483647 ∧ LTwo t 2147483647) (K (.tup [.g ((twoStep a b t who).1.tc true []), T1.c (.bool (twoStep a b t who).2)]) [])⟩
theorem run_spec_TwoStep (a : List (FT.Ty .inst)) (b : List (FT.Ty .inst)) (t : Two) (who : Int) (hpre : a.length ≤ 2147483647 ∧ b.length ≤ 2147483647 ∧ LTwo t 2147483647) : runK [c_spec_Step, c_spec_l22Copy, c_spec_TwoOk, c_spec_l1In, c_spec_SideState] (0) [] pf_spec_TwoStep [tL false .inst a, tL false .inst b, tG (t.tc false []), tI .i64 who] fun r o => r = .tup [.g ((twoStep a b t who).1.tc true []), T1.c (.bool (twoStep a b t who).2)] ∧ o = [] := by
  obtain ⟨l1, l2, l3⟩ := hpre
  have l4 : LState (sideState t who) 2147483647 := sideState_len (who := who) l3
  conv => whnf
  repeat' (first | (refine sel_i (fun h => ?_) (fun h => ?_) <;> conv => whnf) | (refine chk_c ?_ ?_ <;> conv => whnf) | (refine And.intro ?_ rfl) | (refine And.intro ?_ ?_ <;> conv => whnf))
  all_goals (try simp only [etaKey, etaWord, etaMemory, etaState, etaSide, etaTwo, beq_iff_eq, beq_eq_false_iff_ne, ne_eq, Bool.not_eq_true', Bool.not_eq_false', decide_eq_true_eq, decide_eq_false_iff_not] at *)
  all_goals first
    | (refine ⟨?_⟩; assumption)
    | (refine ⟨?_⟩; exact ⟨by assumption, by assumption⟩)
    | (rw [twoStep_no (by assumption)]; rfl)
    | (rw [twoStep_w (by assumption)]; rfl)
    | (rw [twoStep_1 (by assumption) (by assumption) (by assumption)]; rfl)
    | (rw [twoStep_0 (by assumption) (by assumption) (by assumption)]; rfl)
    | contradiction
    | trace_state
theorem ok_spec_TwoStep : FunOk Tryz.prog c_spec_TwoStep := funOk (E := [c_spec_Step, c_spec_l22Copy, c_spec_TwoOk, c_spec_l1In, c_spec_SideState]) (envOk_cons ok_spec_Step (envOk_cons ok_spec_l22Copy (envOk_cons ok_spec_TwoOk (envOk_cons ok_spec_l1In (envOk_cons ok_spec_SideState (envOk_nil)))))) mixd Tryz.func16 (pf := pf_spec_TwoStep) (by kernel_rfl) fun ts K h => by
  obtain ⟨t0, t1, t2, t3, e0, h⟩ := as4_out h
  subst e0
  obtain ⟨a, e1, hq⟩ := arC_out (rd_l .inst) h
  clear h
  subst e1
  have h := hq
  clear hq
  obtain ⟨b, e1, hq⟩ := arC_out (rd_l .inst) h
  clear h
  subst e1
  have h := hq
  clear hq
  obtain ⟨t, e1, hq⟩ := arG_out rd_two h
  clear h
  subst e1
  have h := hq
  clear hq
  obtain ⟨who, e1, hq⟩ := arC_out (rd_int .i64) h
  clear h
  subst e1
  have h := hq
  clear hq
  obtain ⟨hpre, h⟩ := chk_o h
  exact ⟨_, _, h, Nat.le_of_ble_eq_true (show Nat.ble 4 Tryz.f16.ntmps = true by kernel_rfl), _, run_spec_TwoStep a b t who hpre⟩

def pf_impl_TwoStep : PF := ⟨[.c 8 true 18, .t 9], .seq (.reg [.s (.box 6 (.t 2)), .s (.alloc 8 [.nils .word, .nils .bool, .nils .word, .int .i64 0, .ff, .int .i64 0, .int .i64 0, .int .i64 0, .int .i64 0, .int .i64 0, .nils .word, .int .i64 0, .ff, .int .i64 0, .int .i64 0, .int .i64 0, .int .i64 0, .int .i64 0]), .s (.mv 9 (.k (.v (.c .ff))))]) (.seq (.reg [.s (.load 14 true 18 (.t 6)), .s (.call (some 15) 50 [(.t 14)]), .s (.alloc 10 [.nils .word, .nils .bool, .nils .word, .int .i64 0, .ff, .int .i64 0, .int .i64 0, .int .i64 0, .int .i64 0, .int .i64 0, .nils .word, .int .i64 0, .ff, .int .i64 0, .int .i64 0, .int .i64 0, .int .i64 0, .int .i64 0]), .s (.store 18 (.t 10) (.t 15))]) (.seq (.seq (.reg [.s (.load 16 true 18 (.t 6)), .s (.call (some 17) 51 [(.t 16)]), .s (.bnot 18 (.t 17)), .s (.mv 19 (.t 18)), .g 19 false (some 20) (.mv 20 (.t 3)), .g 19 false (some 21) (.call (some 21) 52 [(.t 20), (.k (.v (.c (.int .i64 0)))), (.k (.v (.c (.int .i64 1))))]), .g 19 false (some 22) (.bnot 22 (.t 21)), .s (.pick 23 (.t 19) (.k (.v (.c .tt))) (.t 22))]) (.cond (.t 23) (.seq (.reg [.s (.load 24 true 18 (.t 10)), .s (.store 18 (.t 8) (.t 24)), .s (.mv 9 (.k (.v (.c .ff))))]) (.ret)) (.skip))) (.seq (.reg [.s (.mv 25 (.t 0)), .s (.fa 26 (.t 10) 2), .s (.mv 11 (.t 25)), .s (.mv 12 (.t 26))]) (.seq (.seq (.reg [.s (.mv 27 (.t 3)), .s (.bin 28 .eql (.t 27) (.k (.v (.c (.int .i64 1)))))]) (.cond (.t 28) (.reg [.s (.mv 29 (.t 1)), .s (.fa 30 (.t 10) 10), .s (.mv 11 (.t 29)), .s (.mv 12 (.t 30))]) (.skip))) (.seq (.reg [.s (.mv 31 (.t 11)), .s (.load 32 true 18 (.t 6)), .s (.mv 33 (.t 3)), .s (.call (some 34) 54 [(.t 32), (.t 33)]), .s (.call (some 35) 53 [(.t 31), (.t 34)]), .s (.alloc 13 [.nils .word, .int .i64 0, .ff, .int .i64 0, .int .i64 0, .int .i64 0, .int .i64 0, .nils .word, .nils .bool, .int .i64 0]), .s (.store 10 (.t 13) (.t 35))]) (.seq (.reg [.s (.mv 36 (.t 12)), .s (.fa 37 (.t 13) 0), .s (.load 38 false 1 (.t 37)), .s (.fa 39 (.t 13) 1), .s (.load 40 true 6 (.t 39)), .s (.fa 41 (.t 13) 9), .s (.load 42 false 1 (.t 41)), .s (.build 43 [.nils .word, .int .i64 0, .ff, .int .i64 0, .int .i64 0, .int .i64 0, .int .i64 0, .int .i64 0] [(0, 1, (.t 38)), (1, 6, (.t 40)), (7, 1, (.t 42))]), .s (.nchk 44 (.t 36)), .s (.store 8 (.t 44) (.t 43))]) (.seq (.reg [.s (.fa 45 (.t 13) 7), .s (.load 46 true 2 (.t 45)), .s (.fa 47 (.t 10) 0), .s (.store 2 (.t 47) (.t 46))]) (.seq (.reg [.s (.load 48 true 18 (.t 10)), .s (.store 18 (.t 8) (.t 48)), .s (.mv 9 (.k (.v (.c .tt))))]) (.ret)))))))))⟩
def c_impl_TwoStep : Fun := ⟨18, [], fun ts K => as4 ts fun t0 t1 t2 t3 => arC (pL .inst) t0 fun a => arC (pL .inst) t1 fun b => arG pTwoT t2 fun t => arC (pI .i64) t3 fun who => chk (a.length ≤ 2147483647 ∧ b.length ≤ 2147483647 ∧ LTwo t 2147483647) (K (.tup [.g ((twoStep a b t who).1.tc true []), T1.c (.bool (twoStep a b t who).2)]) [])⟩
theorem run_impl_TwoStep (a : List (FT.Ty .inst)) (b : List (FT.Ty .inst)) (t : Two) (who : Int) (hpre : a.length ≤ 2147483647 ∧ b.length ≤ 2147483647 ∧ LTwo t 2147483647) : runK [c_impl_cloneTwo, c_impl_TwoOk, c_impl_in, c_impl_Step, c_impl_SideState] (0) [] pf_impl_TwoStep [tL false .inst a, tL false .inst b, tG (t.tc false []), tI .i64 who] fun r o => r = .tup [.g ((twoStep a b t who).1.tc true []), T1.c (.bool (twoStep a b t who).2)] ∧ o = [] := by
  obtain ⟨l1, l2, l3⟩ := hpre
  have l4 : LState (sideState t who) 2147483647 := sideState_len (who := who) l3
  conv => whnf
  repeat' (first | (refine sel_i (fun h => ?_) (fun h => ?_) <;> conv => whnf) | (refine chk_c ?_ ?_ <;> conv => whnf) | (refine And.intro ?_ rfl) | (refine And.intro ?_ ?_ <;> conv => whnf))
  all_goals (try simp only [etaKey, etaWord, etaMemory, etaState, etaSide, etaTwo, beq_iff_eq, beq_eq_false_iff_ne, ne_eq, Bool.not_eq_true', Bool.not_eq_false', decide_eq_true_eq, decide_eq_false_iff_not] at *)
  all_goals first
    | (refine ⟨?_⟩; assumption)
    | (refine ⟨?_⟩; exact ⟨by assumption, by assumption⟩)
    | (rw [twoStep_no (by assumption)]; rfl)
    | (rw [twoStep_w (by assumption)]; rfl)
    | (rw [twoStep_1 (by assumption) (by assumption) (by assumption)]; rfl)
    | (rw [twoStep_0 (by assumption) (by assumption) (by assumption)]; rfl)
    | contradiction
    | trace_state
theorem ok_impl_TwoStep : FunOk Tryz.prog c_impl_TwoStep := funOk (E := [c_impl_cloneTwo, c_impl_TwoOk, c_impl_in, c_impl_Step, c_impl_SideState]) (envOk_cons ok_impl_cloneTwo (envOk_cons ok_impl_TwoOk (envOk_cons ok_impl_in (envOk_cons ok_impl_Step (envOk_cons ok_impl_SideState (envOk_nil)))))) mixd Tryz.func18 (pf := pf_impl_TwoStep) (by kernel_rfl) fun ts K h => by
  obtain ⟨t0, t1, t2, t3, e0, h⟩ := as4_out h
  subst e0
  obtain ⟨a, e1, hq⟩ := arC_out (rd_l .inst) h
  clear h
  subst e1
  have h := hq
  clear hq
  obtain ⟨b, e1, hq⟩ := arC_out (rd_l .inst) h
  clear h
  subst e1
  have h := hq
  clear hq
  obtain ⟨t, e1, hq⟩ := arG_out rd_two h
  clear h
  subst e1
  have h := hq
  clear hq
  obtain ⟨who, e1, hq⟩ := arC_out (rd_int .i64) h
  clear h
  subst e1
  have h := hq
  clear hq
  obtain ⟨hpre, h⟩ := chk_o h
  exact ⟨_, _, h, Nat.le_of_ble_eq_true (show Nat.ble 4 Tryz.f18.ntmps = true by kernel_rfl), _, run_impl_TwoStep a b t who hpre⟩

theorem setSide_len {t : Two} {s : State} {who : Int} {n : Nat} (h : LTwo t n) (hs : LState s n) : LTwo (setSide t s who) n := by
  unfold setSide; split
  · exact ⟨hs.2, h.2.1, hs.1⟩
  · exact ⟨hs.2, hs.1, h.2.2⟩
theorem putE_len {s : State} {e : Eff} {n : Nat} (h : LState s n) : LState (putE s e) n := by
  obtain ⟨h1, h2, h3⟩ := h
  unfold putE
  refine ⟨?_, ?_, ?_⟩
  · dsimp only; split
    · rw [List.length_set]; exact h1
    · exact h1
  · dsimp only; split
    · rw [List.length_set]; exact h2
    · exact h2
  · dsimp only; split
    · rw [List.length_set]; exact h3
    · exact h3
theorem stepS_len {l : List Inst} {s : State} {n : Nat} (h : LState s n) : LState (stepS l s) n := by
  unfold stepS
  split
  · exact ⟨Nat.zero_le _, Nat.zero_le _, Nat.zero_le _⟩
  · split
    · exact h
    · split
      · exact h
      · exact putE_len h
theorem twoStep_len {a b : List Inst} {t : Two} {who : Int} {n : Nat} (h : LTwo t n) : LTwo (twoStep a b t who).1 n := by
  unfold twoStep
  split
  · exact h
  · exact setSide_len h (stepS_len (sideState_len h))
theorem etaMTwo (m : Two) (k : Int) : (⟨(markTwo m k).mem, ⟨(markTwo m k).a.regs, m.a.pc, m.a.trap⟩, ⟨(markTwo m k).b.regs, m.b.pc, m.b.trap⟩⟩ : Two) = markTwo m k := rfl

def twoRunGo (a b : List Inst) : List Int → Two → Two
  | [], t => t
  | w :: ws, t => twoRunGo a b ws (twoStep a b t w).1
def twoRun (a b : List Inst) (t : Two) (o : List Int) : Two := if 600 < o.length then t else twoRunGo a b o t
theorem twoRunGo_len {a b : List Inst} {n : Nat} : ∀ {o : List Int} {t : Two}, LTwo t n → LTwo (twoRunGo a b o t) n
  | [], _, h => h
  | _ :: ws, _, h => twoRunGo_len (o := ws) (twoStep_len h)
theorem twoRun_len {a b : List Inst} {o : List Int} {t : Two} {n : Nat} (h : LTwo t n) : LTwo (twoRun a b t o) n := by
  unfold twoRun; split
  · exact h
  · exact twoRunGo_len h
theorem twoRunGo_step {a b : List Inst} {o : List Int} {t : Two} {i : Nat} (h : i < o.length) : twoRunGo a b (o.drop i) t = twoRunGo a b (o.drop (i + 1)) (twoStep a b t (o.getD i 0)).1 := by
  rw [List.drop_eq_getElem_cons h, List.getD_eq_getElem?_getD, List.getElem?_eq_getElem h]; rfl
theorem twoRun_end {a b : List Inst} {o : List Int} {t v : Two} {i : Nat} (h : ¬ (i : Int) < o.length) (hx : twoRunGo a b (o.drop i) v = twoRun a b t o) : twoRun a b t o = v := by
  rw [← hx, List.drop_eq_nil_of_le (by omega)]; rfl
theorem twoRun_big {a b : List Inst} {o : List Int} {t : Two} (h : 600 < o.length) : twoRun a b t o = t := if_pos h

def lb_spec_TwoRun_0 : PC := .seq (.seq (.reg [.s (.mv 13 (.t 10)), .s (.mv 14 (.t 3)), .s (.len 15 false (.t 14)), .s (.bin 16 .lss (.t 13) (.t 15)), .s (.mv 17 (.t 16)), .g 17 true (some 18) (.mv 18 (.t 3)), .g 17 true (some 19) (.len 19 false (.t 18)), .g 17 true (some 20) (.bin 20 .leq (.t 19) (.k (.v (.c (.int .i64 600))))), .s (.pick 21 (.t 17) (.t 20) (.k (.v (.c .ff))))]) (.cond (.t 21) (.skip) (.exit 0))) (.seq (.blk 1 (.rgd [.s (.mv 25 (.t 0)), .s (.mv 26 (.t 1)), .s (.load 27 true 18 (.t 9)), .s (.mv 28 (.t 3)), .s (.mv 29 (.t 10)), .s (.ia 30 (.int .i64) (.t 28) (.t 29)), .s (.load 31 false 1 (.t 30)), .s (.call (some 32) 16 [(.t 25), (.t 26), (.t 27), (.t 31)]), .s (.mv 24 (.t 32)), .s (.ext 33 (.t 24) 0), .s (.ext 34 (.t 24) 1), .s (.store 18 (.t 9) (.t 33))] (.tk 0 (.tk 1 (.tk 2 (.tk 3 (.tk 4 (.tk 5 (.tk 6 (.one 7 true (.tk 8 (.tk 9 (.tk 10 (.one 11 true (.done none))))))))))))))) (.reg [.s (.mv 22 (.t 10)), .s (.bin 23 .add (.t 22) (.k (.v (.c (.int .i64 1))))), .s (.mv 10 (.t 23))]))
def pf_spec_TwoRun : PF := ⟨[.c 8 true 18], .seq (.reg [.s (.box 6 (.t 2)), .s (.alloc 8 [.nils .word, .nils .bool, .nils .word, .int .i64 0, .ff, .int .i64 0, .int .i64 0, .int .i64 0, .int .i64 0, .int .i64 0, .nils .word, .int .i64 0, .ff, .int .i64 0, .int .i64 0, .int .i64 0, .int .i64 0, .int .i64 0])]) (.seq (.reg [.s (.load 11 true 18 (.t 6)), .s (.call (some 12) 45 [(.t 11)]), .s (.alloc 9 [.nils .word, .nils .bool, .nils .word, .int .i64 0, .ff, .int .i64 0, .int .i64 0, .int .i64 0, .int .i64 0, .int .i64 0, .nils .word, .int .i64 0, .ff, .int .i64 0, .int .i64 0, .int .i64 0, .int .i64 0, .int .i64 0]), .s (.store 18 (.t 9) (.t 12))]) (.seq (.seq (.reg [.s (.mv 10 (.k (.v (.c (.int .i64 0)))))]) (.blk 0 (.loop [0, 1, 3, 8, 9, 10] lb_spec_TwoRun_0))) (.seq (.reg [.s (.load 35 true 18 (.t 9)), .s (.store 18 (.t 8) (.t 35))]) (.ret))))⟩
def c_spec_TwoRun : Fun := ⟨23, [], fun ts K => as4 ts fun t0 t1 t2 t3 => arC (pL .inst) t0 fun a => arC (pL .inst) t1 fun b => arG pTwoT t2 fun t => arC (pL (.int .i64)) t3 fun od => chk (a.length ≤ 2147483647 ∧ b.length ≤ 2147483647 ∧ LTwo t 2147483647 ∧ od.length ≤ 2147483647) (K (tG ((twoRun a b t od).tc true [])) [])⟩
theorem run_spec_TwoRun (a : List (FT.Ty .inst)) (b : List (FT.Ty .inst)) (t : Two) (od : List (FT.Ty (.int .i64))) (hpre : a.length ≤ 2147483647 ∧ b.length ≤ 2147483647 ∧ LTwo t 2147483647 ∧ od.length ≤ 2147483647) : runK [c_spec_TwoStep, c_spec_l22Copy] (od.length + 1) [] pf_spec_TwoRun [tL false .inst a, tL false .inst b, tG (t.tc false []), tL false (.int .i64) od] fun r o => r = tG ((twoRun a b t od).tc true []) ∧ o = [] := by
  obtain ⟨l1, l2, l3, l4⟩ := hpre
  conv => whnf
  refine chk_i l3 ?_
  conv => whnf
  refine loop (α := Nat × Two) (fun q => ⟨[(0, .v (.c (.sl false .inst 0))), (1, .v (.c (.sl false .inst 1))), (3, .v (.c (.sl false (.int .i64) 2))), (8, .v (.c (.ptr 3 0))), (9, .v (.c (.ptr 4 0))), (10, .v (.c (.int .i64 (q.1 : Int))))],
        [(8, some (.flat true .word none q.2.b.regs)), (7, some (.flat true .word none q.2.a.regs)), (6, some (.flat true .bool none q.2.mem.gone)), (5, some (.flat true .word none q.2.mem.words)), (4, some (.box true [.sl false .word 5, .sl false .bool 6, .sl false .word 7, .int .i64 q.2.a.pc.n, .bool q.2.a.pc.is, .int .i64 q.2.a.pc.key.base, .int .i64 q.2.a.pc.key.top, .int .i64 q.2.a.pc.key.perms, .int .i64 q.2.a.pc.key.sealed, .int .i64 q.2.a.trap, .sl false .word 8, .int .i64 q.2.b.pc.n, .bool q.2.b.pc.is, .int .i64 q.2.b.pc.key.base, .int .i64 q.2.b.pc.key.top, .int .i64 q.2.b.pc.key.perms, .int .i64 q.2.b.pc.key.sealed, .int .i64 q.2.b.trap])), (3, some (.box true [.nils .word, .nils .bool, .nils .word, .int .i64 0, .ff, .int .i64 0, .int .i64 0, .int .i64 0, .int .i64 0, .int .i64 0, .nils .word, .int .i64 0, .ff, .int .i64 0, .int .i64 0, .int .i64 0, .int .i64 0, .int .i64 0])), (2, some (.flat false (.int .i64) none od)), (1, some (.flat false .inst none b)), (0, some (.flat false .inst none a))], nums.tail.tail.tail.tail.tail.tail.tail.tail.tail, [], false, []⟩)
    (fun q => q.1 ≤ od.length ∧ LTwo q.2 2147483647 ∧ (od.length ≤ 600 → twoRunGo a b (od.drop q.1) q.2 = twoRun a b t od) ∧ (600 < od.length → q.1 = 0 ∧ q.2 = t)) (fun q => od.length - q.1) (fun q R hI hR => ?_) (0, t) _ ⟨by simp, l3, fun h => by unfold twoRun; rw [if_neg (by omega)]; rfl, fun _ => ⟨rfl, rfl⟩⟩ (by dsimp only; omega)
  obtain ⟨i, v⟩ := q
  obtain ⟨hi, hl, hx⟩ := hI
  conv => whnf
  repeat' (first | (refine sel_i (fun h => ?_) (fun h => ?_) <;> conv => whnf) | (refine chk_c ?_ ?_ <;> conv => whnf) | (refine And.intro ?_ rfl) | (refine And.intro ?_ ?_ <;> conv => whnf))
  all_goals (try simp only [etaKey, etaWord, etaMemory, etaSide, etaTwo, decide_eq_true_eq, decide_eq_false_iff_not, Int.toNat_natCast] at *)
  all_goals first
    | (refine ⟨?_⟩; assumption)
    | (refine ⟨?_⟩; exact ⟨by assumption, by assumption, by assumption⟩)
    | (refine ⟨?_⟩; omega)
    | (rw [wrap_id (n := (i : Int) + 1) (by omega) (by omega)]; exact hR (i + 1, (twoStep a b v (od.getD i 0)).1) ⟨by dsimp only; omega, twoStep_len hl, fun _ => by rw [← hx.1 (by omega)]; exact (twoRunGo_step (by omega)).symm, fun _ => by omega⟩ (by dsimp only; omega))
    | (rw [twoRun_big (by omega), ← (hx.2 (by omega)).2]; rfl)
    | (by_cases hb : od.length ≤ 600
       · rw [twoRun_end (by assumption) (hx.1 hb)]; rfl
       · rw [twoRun_big (by omega), ← (hx.2 (by omega)).2]; rfl)
    | trace_state
theorem ok_spec_TwoRun : FunOk Tryz.prog c_spec_TwoRun := funOk (E := [c_spec_TwoStep, c_spec_l22Copy]) (envOk_cons ok_spec_TwoStep (envOk_cons ok_spec_l22Copy (envOk_nil))) mixd Tryz.func23 (pf := pf_spec_TwoRun) (by kernel_rfl) fun ts K h => by
  obtain ⟨t0, t1, t2, t3, e0, h⟩ := as4_out h
  subst e0
  obtain ⟨a, e1, hq⟩ := arC_out (rd_l .inst) h
  clear h
  subst e1
  have h := hq
  clear hq
  obtain ⟨b, e1, hq⟩ := arC_out (rd_l .inst) h
  clear h
  subst e1
  have h := hq
  clear hq
  obtain ⟨t, e1, hq⟩ := arG_out rd_two h
  clear h
  subst e1
  have h := hq
  clear hq
  obtain ⟨od, e1, hq⟩ := arC_out (rd_l (.int .i64)) h
  clear h
  subst e1
  have h := hq
  clear hq
  obtain ⟨hpre, h⟩ := chk_o h
  exact ⟨_, _, h, Nat.le_of_ble_eq_true (show Nat.ble 4 Tryz.f23.ntmps = true by kernel_rfl), _, run_spec_TwoRun a b t od hpre⟩

def lb_impl_TwoRun_0 : PC := .seq (.reg [.s (.bin 21 .lss (.t 20) (.t 19))]) (.seq (.cond (.t 21) (.skip) (.exit 0)) (.seq (.blk 1 (.seq (.reg [.s (.ia 22 (.int .i64) (.t 18) (.t 20)), .s (.load 23 false 1 (.t 22)), .s (.mv 11 (.t 23))]) (.reg [.s (.mv 25 (.t 0)), .s (.mv 26 (.t 1)), .s (.load 27 true 18 (.t 9)), .s (.mv 28 (.t 11)), .s (.call (some 29) 18 [(.t 25), (.t 26), (.t 27), (.t 28)]), .s (.mv 24 (.t 29)), .s (.ext 30 (.t 24) 0), .s (.ext 31 (.t 24) 1), .s (.store 18 (.t 9) (.t 30))]))) (.reg [.s (.bin 32 .add (.t 20) (.k (.v (.c (.int .i64 1))))), .s (.mv 20 (.t 32))])))
def pf_impl_TwoRun : PF := ⟨[.c 8 true 18], .seq (.reg [.s (.box 6 (.t 2)), .s (.alloc 8 [.nils .word, .nils .bool, .nils .word, .int .i64 0, .ff, .int .i64 0, .int .i64 0, .int .i64 0, .int .i64 0, .int .i64 0, .nils .word, .int .i64 0, .ff, .int .i64 0, .int .i64 0, .int .i64 0, .int .i64 0, .int .i64 0])]) (.seq (.reg [.s (.load 12 true 18 (.t 6)), .s (.call (some 13) 50 [(.t 12)]), .s (.alloc 9 [.nils .word, .nils .bool, .nils .word, .int .i64 0, .ff, .int .i64 0, .int .i64 0, .int .i64 0, .int .i64 0, .int .i64 0, .nils .word, .int .i64 0, .ff, .int .i64 0, .int .i64 0, .int .i64 0, .int .i64 0, .int .i64 0]), .s (.store 18 (.t 9) (.t 13))]) (.seq (.seq (.reg [.s (.mv 14 (.t 3)), .s (.len 15 false (.t 14)), .s (.bin 16 .gtr (.t 15) (.k (.v (.c (.int .i64 600)))))]) (.cond (.t 16) (.seq (.reg [.s (.load 17 true 18 (.t 9)), .s (.store 18 (.t 8) (.t 17))]) (.ret)) (.skip))) (.seq (.seq (.reg [.s (.mv 18 (.t 3)), .s (.len 19 false (.t 18)), .s (.mv 20 (.k (.v (.c (.int .i64 0)))))]) (.blk 0 (.loop [0, 1, 8, 9, 18, 19, 20] lb_impl_TwoRun_0))) (.seq (.reg [.s (.load 33 true 18 (.t 9)), .s (.store 18 (.t 8) (.t 33))]) (.ret)))))⟩
def c_impl_TwoRun : Fun := ⟨25, [], fun ts K => as4 ts fun t0 t1 t2 t3 => arC (pL .inst) t0 fun a => arC (pL .inst) t1 fun b => arG pTwoT t2 fun t => arC (pL (.int .i64)) t3 fun od => chk (a.length ≤ 2147483647 ∧ b.length ≤ 2147483647 ∧ LTwo t 2147483647 ∧ od.length ≤ 2147483647) (K (tG ((twoRun a b t od).tc true [])) [])⟩
theorem run_impl_TwoRun (a : List (FT.Ty .inst)) (b : List (FT.Ty .inst)) (t : Two) (od : List (FT.Ty (.int .i64))) (hpre : a.length ≤ 2147483647 ∧ b.length ≤ 2147483647 ∧ LTwo t 2147483647 ∧ od.length ≤ 2147483647) : runK [c_impl_TwoStep, c_impl_cloneTwo] (od.length + 1) [] pf_impl_TwoRun [tL false .inst a, tL false .inst b, tG (t.tc false []), tL false (.int .i64) od] fun r o => r = tG ((twoRun a b t od).tc true []) ∧ o = [] := by
  obtain ⟨l1, l2, l3, l4⟩ := hpre
  conv => whnf
  refine chk_i l3 ?_
  conv => whnf
  refine sel_i (fun h => ?_) (fun h => ?_)
  · conv => whnf
    repeat' (first | (refine sel_i (fun h => ?_) (fun h => ?_) <;> conv => whnf) | (refine chk_c ?_ ?_ <;> conv => whnf) | (refine And.intro ?_ rfl) | (refine And.intro ?_ ?_ <;> conv => whnf))
    all_goals (try simp only [etaKey, etaWord, etaMemory, etaSide, etaTwo, decide_eq_true_eq, decide_eq_false_iff_not, Int.toNat_natCast, gt_iff_lt] at *)
    unfold twoRun
    rw [if_pos (by omega)]
    rfl
  have h : ¬ 600 < od.length := by simp only [decide_eq_false_iff_not, gt_iff_lt] at h; omega
  conv => whnf
  refine loop (α := Nat × Two) (fun q => ⟨[(0, .v (.c (.sl false .inst 0))), (1, .v (.c (.sl false .inst 1))), (8, .v (.c (.ptr 2 0))), (9, .v (.c (.ptr 3 0))), (18, .v (.c (.sl false (.int .i64) 8))), (19, .v (.c (.int .i64 (od.length : Int)))), (20, .v (.c (.int .i64 (q.1 : Int))))],
        [(8, some (.flat false (.int .i64) none od)), (7, some (.flat true .word none q.2.b.regs)), (6, some (.flat true .word none q.2.a.regs)), (5, some (.flat true .bool none q.2.mem.gone)), (4, some (.flat true .word none q.2.mem.words)), (3, some (.box true [.sl false .word 4, .sl false .bool 5, .sl false .word 6, .int .i64 q.2.a.pc.n, .bool q.2.a.pc.is, .int .i64 q.2.a.pc.key.base, .int .i64 q.2.a.pc.key.top, .int .i64 q.2.a.pc.key.perms, .int .i64 q.2.a.pc.key.sealed, .int .i64 q.2.a.trap, .sl false .word 7, .int .i64 q.2.b.pc.n, .bool q.2.b.pc.is, .int .i64 q.2.b.pc.key.base, .int .i64 q.2.b.pc.key.top, .int .i64 q.2.b.pc.key.perms, .int .i64 q.2.b.pc.key.sealed, .int .i64 q.2.b.trap])), (2, some (.box true [.nils .word, .nils .bool, .nils .word, .int .i64 0, .ff, .int .i64 0, .int .i64 0, .int .i64 0, .int .i64 0, .int .i64 0, .nils .word, .int .i64 0, .ff, .int .i64 0, .int .i64 0, .int .i64 0, .int .i64 0, .int .i64 0])), (1, some (.flat false .inst none b)), (0, some (.flat false .inst none a))], nums.tail.tail.tail.tail.tail.tail.tail.tail.tail, [], false, []⟩)
    (fun q => q.1 ≤ od.length ∧ LTwo q.2 2147483647 ∧ twoRunGo a b (od.drop q.1) q.2 = twoRun a b t od) (fun q => od.length - q.1) (fun q R hI hR => ?_) (0, t) _ ⟨by simp, l3, by unfold twoRun; rw [if_neg h]; rfl⟩ (by dsimp only; omega)
  obtain ⟨i, v⟩ := q
  obtain ⟨hi, hl, hx⟩ := hI
  conv => whnf
  repeat' (first | (refine sel_i (fun h => ?_) (fun h => ?_) <;> conv => whnf) | (refine chk_c ?_ ?_ <;> conv => whnf) | (refine And.intro ?_ rfl) | (refine And.intro ?_ ?_ <;> conv => whnf))
  all_goals (try simp only [etaKey, etaWord, etaMemory, etaSide, etaTwo, decide_eq_true_eq, decide_eq_false_iff_not, Int.toNat_natCast] at *)
  all_goals first
    | (refine ⟨?_⟩; assumption)
    | (refine ⟨?_⟩; exact ⟨by assumption, by assumption, by assumption⟩)
    | (refine ⟨?_⟩; omega)
    | (rw [wrap_id (n := (i : Int) + 1) (by omega) (by omega)]; exact hR (i + 1, (twoStep a b v (od.getD i 0)).1) ⟨by dsimp only; omega, twoStep_len hl, by rw [← hx]; exact (twoRunGo_step (by omega)).symm⟩ (by dsimp only; omega))
    | (rw [twoRun_end (by assumption) hx]; rfl)
    | trace_state
theorem ok_impl_TwoRun : FunOk Tryz.prog c_impl_TwoRun := funOk (E := [c_impl_TwoStep, c_impl_cloneTwo]) (envOk_cons ok_impl_TwoStep (envOk_cons ok_impl_cloneTwo (envOk_nil))) mixd Tryz.func25 (pf := pf_impl_TwoRun) (by kernel_rfl) fun ts K h => by
  obtain ⟨t0, t1, t2, t3, e0, h⟩ := as4_out h
  subst e0
  obtain ⟨a, e1, hq⟩ := arC_out (rd_l .inst) h
  clear h
  subst e1
  have h := hq
  clear hq
  obtain ⟨b, e1, hq⟩ := arC_out (rd_l .inst) h
  clear h
  subst e1
  have h := hq
  clear hq
  obtain ⟨t, e1, hq⟩ := arG_out rd_two h
  clear h
  subst e1
  have h := hq
  clear hq
  obtain ⟨od, e1, hq⟩ := arC_out (rd_l (.int .i64)) h
  clear h
  subst e1
  have h := hq
  clear hq
  obtain ⟨hpre, h⟩ := chk_o h
  exact ⟨_, _, h, Nat.le_of_ble_eq_true (show Nat.ble 4 Tryz.f25.ntmps = true by kernel_rfl), _, run_impl_TwoRun a b t od hpre⟩
end Go.Pi
