/- Contracts of functions, each out of its run by PI. No conditions. -/
import Derived.Test.YthkhmkdkgjdjhaaGreatC4
namespace Go.Pi
open Go.Proofs
set_option linter.unusedVariables false
set_option linter.unusedSimpArgs false
set_option maxRecDepth 100000
attribute [local irreducible] iterN
def memE (m : Mem) (x : Inst) (a b : Word) : Word × Int :=
  if x.op = 10 then readM m a (IntKind.i64.wrap (a.n + x.n)) else if x.op = 11 then (zW, writeC m a (IntKind.i64.wrap (a.n + x.n)) b) else (zW, 0)
def effE (l : List Inst) (s : State) : Eff :=
  let x := (fetchI l s.pc).1
  let a := s.regs.getD x.a.toNat (FT.zero .word)
  let b := s.regs.getD x.b.toNat (FT.zero .word)
  if (fetchI l s.pc).2 ≠ 0 then trapE (fetchI l s.pc).2 s.pc else
  if (memE s.mem x a b).2 ≠ 0 then trapE (memE s.mem x a b).2 s.pc else workE x s.pc a b (memE s.mem x a b).1
def putE (s : State) (e : Eff) : State :=
  ⟨if inR e.r 0 7 then s.regs.set e.r.toNat e.val else s.regs, e.next,
   ⟨if inR e.addr 0 23 then s.mem.words.set e.addr.toNat e.put else s.mem.words, if inR e.drop 0 23 then s.mem.gone.set e.drop.toNat true else s.mem.gone⟩, s.trap⟩
abbrev zState : State := ⟨[], zW, ⟨[], []⟩, 0⟩
def stepS (l : List Inst) (s : State) : State :=
  if stateOk s = false then zState else if s.trap ≠ 0 then s else if (effE l s).trap ≠ 0 then ⟨s.regs, s.pc, s.mem, (effE l s).trap⟩ else putE s (effE l s)
def LenOk (s : State) : Prop := s.regs.length = 8 ∧ s.mem.words.length = 24 ∧ s.mem.gone.length = 24
theorem stateOk_len {s : State} (h : stateOk s = true) : LenOk s := by
  simp only [stateOk, memoryOk, Bool.and_eq_true, decide_eq_true_eq] at h
  exact ⟨h.1.1.1.1, h.1.2.1.1, h.1.2.1.2⟩
theorem LenOk.l {s : State} (h : LenOk s) : LState s 2147483647 := by
  obtain ⟨h1, h2, h3⟩ := h; exact ⟨by omega, by omega, by omega⟩
theorem fld_in {v : Int} {b : Bool} (h : fld v b = true) : 0 ≤ v ∧ v ≤ 7 := by
  simp only [fld, Bool.and_eq_true, inR_t] at h; exact h.1
theorem fetchI_ok {l : List Inst} {pc : Word} (h : (fetchI l pc).2 = 0) : insOk (fetchI l pc).1 = true := by
  unfold fetchI at h ⊢
  split at h
  · contradiction
  · rename_i h1
    rw [if_neg h1]
    split at h
    · cases h
    · rename_i h2
      rw [if_neg h2]
      cases e : insOk (l.getD pc.n.toNat (FT.zero .inst)) with
      | true => rfl
      | false => exact absurd (.inr e) h2
theorem insOk_in {x : Inst} (h : insOk x = true) : (0 ≤ x.a ∧ x.a ≤ 7) ∧ (0 ≤ x.b ∧ x.b ≤ 7) := by
  simp only [insOk, Bool.and_eq_true] at h
  exact ⟨fld_in h.1.1.1.2, fld_in h.1.1.2⟩
theorem fetchI_in {l : List Inst} {pc : Word} (h : (fetchI l pc).2 = 0) : (0 ≤ (fetchI l pc).1.a ∧ (fetchI l pc).1.a ≤ 7) ∧ (0 ≤ (fetchI l pc).1.b ∧ (fetchI l pc).1.b ≤ 7) := insOk_in (fetchI_ok h)
theorem memE_10 {m : Mem} {x : Inst} {a b : Word} (h : x.op = 10) : memE m x a b = readM m a (IntKind.i64.wrap (a.n + x.n)) := if_pos h
theorem memE_11 {m : Mem} {x : Inst} {a b : Word} (h0 : ¬ x.op = 10) (h : x.op = 11) : memE m x a b = (zW, writeC m a (IntKind.i64.wrap (a.n + x.n)) b) := by unfold memE; rw [if_neg h0, if_pos h]
theorem memE_x {m : Mem} {x : Inst} {a b : Word} (h0 : ¬ x.op = 10) (h : ¬ x.op = 11) : memE m x a b = (zW, 0) := by unfold memE; rw [if_neg h0, if_neg h]

def pf_spec_l9Mem : PF := ⟨[.c 8 true 6, .t 9], .seq (.reg [.s (.box 4 (.t 0)), .s (.box 5 (.t 1)), .s (.box 6 (.t 2)), .s (.box 7 (.t 3)), .s (.alloc 8 [.int .i64 0, .ff, .int .i64 0, .int .i64 0, .int .i64 0, .int .i64 0]), .s (.mv 9 (.k (.v (.c (.int .i64 0)))))]) (.seq (.seq (.reg [.s (.fa 12 (.t 5) 0), .s (.load 13 false 1 (.t 12))]) (.blk 0 (.seq (.reg [.s (.bin 15 .eql (.t 13) (.k (.v (.c (.int .i64 10))))), .s (.mv 14 (.t 15))]) (.cond (.t 14) (.seq (.reg [.s (.load 17 true 2 (.t 4)), .s (.load 18 true 6 (.t 6)), .s (.fa 19 (.t 6) 0), .s (.load 20 false 1 (.t 19)), .s (.fa 21 (.t 5) 4), .s (.load 22 false 1 (.t 21)), .s (.bin 23 .add (.t 20) (.t 22)), .s (.call (some 24) 78 [(.t 17), (.t 18), (.t 23)]), .s (.mv 16 (.t 24)), .s (.ext 25 (.t 16) 0), .s (.ext 26 (.t 16) 1), .s (.alloc 10 [.int .i64 0, .ff, .int .i64 0, .int .i64 0, .int .i64 0, .int .i64 0]), .s (.store 6 (.t 10) (.t 25)), .s (.mv 11 (.t 26))]) (.seq (.reg [.s (.load 27 true 6 (.t 10)), .s (.mv 28 (.t 11)), .s (.store 6 (.t 8) (.t 27)), .s (.mv 9 (.t 28))]) (.ret))) (.seq (.reg [.s (.bin 30 .eql (.t 13) (.k (.v (.c (.int .i64 11))))), .s (.mv 29 (.t 30))]) (.cond (.t 29) (.seq (.reg [.s (.build 31 [.int .i64 0, .ff, .int .i64 0, .int .i64 0, .int .i64 0, .int .i64 0] []), .s (.load 32 true 2 (.t 4)), .s (.load 33 true 6 (.t 6)), .s (.fa 34 (.t 6) 0), .s (.load 35 false 1 (.t 34)), .s (.fa 36 (.t 5) 4), .s (.load 37 false 1 (.t 36)), .s (.bin 38 .add (.t 35) (.t 37)), .s (.load 39 true 6 (.t 7)), .s (.call (some 40) 79 [(.t 32), (.t 33), (.t 38), (.t 39)]), .s (.store 6 (.t 8) (.t 31)), .s (.mv 9 (.t 40))]) (.ret)) (.skip))))))) (.seq (.reg [.s (.build 41 [.int .i64 0, .ff, .int .i64 0, .int .i64 0, .int .i64 0, .int .i64 0] []), .s (.store 6 (.t 8) (.t 41)), .s (.mv 9 (.k (.v (.c (.int .i64 0)))))]) (.ret)))⟩
def c_spec_l9Mem : Fun := ⟨53, [], fun ts K => as4 ts fun t0 t1 t2 t3 => arG pMemT t0 fun m => arG pInstT t1 fun x => arG pWordT t2 fun a => arG pWordT t3 fun b => chk (LMem m 2147483647) (K (.tup [.g ((memE m x a b).1.tc []), .c (.int .i64 (memE m x a b).2)]) [])⟩
theorem run_spec_l9Mem (m : Mem) (x : Inst) (a : Word) (b : Word) (hpre : LMem m 2147483647) : runK [c_spec_Read, c_spec_l8Write] (0) [] pf_spec_l9Mem [tG (m.tc false []), tG (x.tc []), tG (a.tc []), tG (b.tc [])] fun r o => r = .tup [.g ((memE m x a b).1.tc []), .c (.int .i64 (memE m x a b).2)] ∧ o = [] := by
  have w1 := True.intro
  conv => whnf
  repeat' (first | (refine sel_i (fun h => ?_) (fun h => ?_) <;> conv => whnf) | (refine chk_c ?_ ?_ <;> conv => whnf) | (refine And.intro ?_ rfl) | (refine And.intro ?_ ?_ <;> conv => whnf))
  all_goals (try simp only [etaKey, etaWord, etaInst, etaMemory, bne_iff_ne, ne_eq, bne_eq_false_iff_eq, beq_iff_eq, beq_eq_false_iff_ne, Bool.not_eq_true', Bool.not_eq_false', decide_eq_true_eq, decide_eq_false_iff_not] at *)
  all_goals first
    | (refine ⟨?_⟩; first | assumption | omega | decide)
    | (rw [memE_10 (by assumption)]; rfl)
    | (rw [memE_11 (by assumption) (by assumption)]; rfl)
    | (rw [memE_x (by assumption) (by assumption)]; rfl)
    | trace_state
theorem ok_spec_l9Mem : FunOk Tryz.prog c_spec_l9Mem := funOk (E := [c_spec_Read, c_spec_l8Write]) (envOk_cons ok_spec_Read (envOk_cons ok_spec_l8Write (envOk_nil))) mixd Tryz.func53 (pf := pf_spec_l9Mem) (by kernel_rfl) fun ts K h => by
  obtain ⟨t0, t1, t2, t3, e0, h⟩ := as4_out h
  subst e0
  obtain ⟨m, e1, hq⟩ := arG_out rd_mem h
  clear h
  subst e1
  have h := hq
  clear hq
  obtain ⟨x, e1, hq⟩ := arG_out rd_inst h
  clear h
  subst e1
  have h := hq
  clear hq
  obtain ⟨a, e1, hq⟩ := arG_out rd_word h
  clear h
  subst e1
  have h := hq
  clear hq
  obtain ⟨b, e1, hq⟩ := arG_out rd_word h
  clear h
  subst e1
  have h := hq
  clear hq
  obtain ⟨hpre, h⟩ := chk_o h
  exact ⟨_, _, h, Nat.le_of_ble_eq_true (show Nat.ble 4 Tryz.f53.ntmps = true by kernel_rfl), _, run_spec_l9Mem m x a b hpre⟩

def pf_spec_l9Copy : PF := ⟨[.c 2 true 10], .seq (.reg [.s (.box 1 (.t 0)), .s (.alloc 2 [.nils .word, .int .i64 0, .ff, .int .i64 0, .int .i64 0, .int .i64 0, .int .i64 0, .nils .word, .nils .bool, .int .i64 0])]) (.seq (.rgd [.s (.bs 3 .word []), .s (.fa 4 (.t 1) 0), .s (.load 5 false 1 (.t 4)), .s (.app 6 .word (.t 3) (.t 5)), .s (.fa 7 (.t 1) 1), .s (.load 8 true 6 (.t 7)), .s (.fa 9 (.t 1) 7), .s (.load 10 true 2 (.t 9)), .s (.call (some 11) 77 [(.t 10)]), .s (.fa 12 (.t 1) 9), .s (.load 13 false 1 (.t 12)), .s (.build 14 [.nils .word, .int .i64 0, .ff, .int .i64 0, .int .i64 0, .int .i64 0, .int .i64 0, .nils .word, .nils .bool, .int .i64 0] [(0, 1, (.t 6)), (1, 6, (.t 8)), (7, 2, (.t 11)), (9, 1, (.t 13))]), .s (.store 10 (.t 2) (.t 14))] (.tk 1 (.tk 2 (.tk 4 (.tk 5 (.tk 6 (.tk 7 (.tk 9 (.tk 10 (.one 0 false (.one 3 false (.one 8 false (.tk 11 (.one 12 true (.done none))))))))))))))) (.ret))⟩
def c_spec_l9Copy : Fun := ⟨52, [], fun ts K => as1 ts fun t0 => arG pStateT t0 fun s => chk (LState s 2147483647) (K (tG (s.tc true [])) [])⟩
theorem run_spec_l9Copy (s : State) (hpre : LState s 2147483647) : runK [c_spec_l8Copy] (0) [] pf_spec_l9Copy [tG (s.tc false [])] fun r o => r = tG (s.tc true []) ∧ o = [] := by
  obtain ⟨l1, l2, l3⟩ := hpre
  conv => whnf
  repeat' (first | (refine chk_c ?_ ?_ <;> conv => whnf) | (refine And.intro ?_ ?_ <;> conv => whnf))
  all_goals first
    | (refine ⟨?_⟩; omega)
    | (refine ⟨?_⟩; simp; done)
    | (refine ⟨?_⟩; simp [LMem, LTwo] at *; omega)
    | rfl
    | exact True.intro
    | exact ⟨rfl, rfl⟩
theorem ok_spec_l9Copy : FunOk Tryz.prog c_spec_l9Copy := funOk (E := [c_spec_l8Copy]) (envOk_cons ok_spec_l8Copy (envOk_nil)) mixd Tryz.func52 (pf := pf_spec_l9Copy) (by kernel_rfl) fun ts K h => by
  obtain ⟨t0, e0, h⟩ := as1_out h
  subst e0
  obtain ⟨s, e1, hq⟩ := arG_out rd_state h
  clear h
  subst e1
  have h := hq
  clear hq
  obtain ⟨hpre, h⟩ := chk_o h
  exact ⟨_, _, h, Nat.le_of_ble_eq_true (show Nat.ble 1 Tryz.f52.ntmps = true by kernel_rfl), _, run_spec_l9Copy s hpre⟩

def pf_impl_cloneState : PF := ⟨[.c 2 true 10], .seq (.reg [.s (.box 1 (.t 0)), .s (.alloc 2 [.nils .word, .int .i64 0, .ff, .int .i64 0, .int .i64 0, .int .i64 0, .int .i64 0, .nils .word, .nils .bool, .int .i64 0])]) (.seq (.rgd [.s (.fa 3 (.t 1) 0), .s (.load 4 false 1 (.t 3)), .s (.call (some 5) 92 [(.t 4)]), .s (.fa 6 (.t 1) 7), .s (.load 7 true 2 (.t 6)), .s (.call (some 8) 93 [(.t 7)]), .s (.fa 9 (.t 1) 0), .s (.store 1 (.t 9) (.t 5)), .s (.fa 10 (.t 1) 7), .s (.store 2 (.t 10) (.t 8))] (.tk 0 (.tk 1 (.tk 3 (.tk 4 (.one 2 false (.tk 6 (.one 5 true (.one 7 true (.tk 8 (.one 9 true (.done none)))))))))))) (.seq (.reg [.s (.load 11 true 10 (.t 1)), .s (.store 10 (.t 2) (.t 11))]) (.ret)))⟩
def c_impl_cloneState : Fun := ⟨60, [], fun ts K => as1 ts fun t0 => arG pStateT t0 fun s => chk (LState s 2147483647) (K (tG (s.tc true [])) [])⟩
theorem run_impl_cloneState (s : State) (hpre : LState s 2147483647) : runK [c_slices_Clone_Word, c_impl_cloneMemory] (0) [] pf_impl_cloneState [tG (s.tc false [])] fun r o => r = tG (s.tc true []) ∧ o = [] := by
  obtain ⟨l1, l2, l3⟩ := hpre
  conv => whnf
  repeat' (first | (refine chk_c ?_ ?_ <;> conv => whnf) | (refine And.intro ?_ ?_ <;> conv => whnf))
  all_goals first
    | (refine ⟨?_⟩; omega)
    | (refine ⟨?_⟩; simp; done)
    | (refine ⟨?_⟩; simp [LMem, LTwo] at *; omega)
    | rfl
    | exact True.intro
    | exact ⟨rfl, rfl⟩
theorem ok_impl_cloneState : FunOk Tryz.prog c_impl_cloneState := funOk (E := [c_slices_Clone_Word, c_impl_cloneMemory]) (envOk_cons ok_slices_Clone_Word (envOk_cons ok_impl_cloneMemory (envOk_nil))) mixd Tryz.func60 (pf := pf_impl_cloneState) (by kernel_rfl) fun ts K h => by
  obtain ⟨t0, e0, h⟩ := as1_out h
  subst e0
  obtain ⟨s, e1, hq⟩ := arG_out rd_state h
  clear h
  subst e1
  have h := hq
  clear hq
  obtain ⟨hpre, h⟩ := chk_o h
  exact ⟨_, _, h, Nat.le_of_ble_eq_true (show Nat.ble 1 Tryz.f60.ntmps = true by kernel_rfl), _, run_impl_cloneState s hpre⟩

def pf_impl_effectOf : PF := ⟨[.c 4 true 22], .seq (.reg [.s (.box 3 (.t 1)), .s (.alloc 4 [.int .i64 0, .int .i64 0, .int .i64 0, .ff, .int .i64 0, .int .i64 0, .int .i64 0, .int .i64 0, .int .i64 0, .ff, .int .i64 0, .int .i64 0, .int .i64 0, .int .i64 0, .int .i64 0, .int .i64 0, .ff, .int .i64 0, .int .i64 0, .int .i64 0, .int .i64 0, .int .i64 0])]) (.seq (.reg [.s (.mv 11 (.t 0)), .s (.fa 12 (.t 3) 1), .s (.load 13 true 6 (.t 12)), .s (.call (some 14) 87 [(.t 11), (.t 13)]), .s (.mv 10 (.t 14)), .s (.ext 15 (.t 10) 0), .s (.ext 16 (.t 10) 1), .s (.alloc 5 [.int .i64 0, .int .i64 0, .int .i64 0, .int .i64 0, .int .i64 0]), .s (.store 5 (.t 5) (.t 15)), .s (.mv 6 (.t 16))]) (.seq (.seq (.reg [.s (.mv 17 (.t 6)), .s (.bin 18 .neq (.t 17) (.k (.v (.c (.int .i64 0)))))]) (.cond (.t 18) (.seq (.reg [.s (.mv 19 (.t 6)), .s (.fa 20 (.t 3) 1), .s (.load 21 true 6 (.t 20)), .s (.call (some 22) 88 [(.t 19), (.t 21)]), .s (.store 22 (.t 4) (.t 22))]) (.ret)) (.skip))) (.seq (.rgd [.s (.fa 23 (.t 3) 0), .s (.load 24 false 1 (.t 23)), .s (.fa 25 (.t 5) 2), .s (.load 26 false 1 (.t 25)), .s (.ia 27 .word (.t 24) (.t 26)), .s (.load 28 true 6 (.t 27)), .s (.fa 29 (.t 3) 0), .s (.load 30 false 1 (.t 29)), .s (.fa 31 (.t 5) 3), .s (.load 32 false 1 (.t 31)), .s (.ia 33 .word (.t 30) (.t 32)), .s (.load 34 true 6 (.t 33)), .s (.alloc 7 [.int .i64 0, .ff, .int .i64 0, .int .i64 0, .int .i64 0, .int .i64 0]), .s (.alloc 8 [.int .i64 0, .ff, .int .i64 0, .int .i64 0, .int .i64 0, .int .i64 0]), .s (.store 6 (.t 7) (.t 28)), .s (.store 6 (.t 8) (.t 34))] (.tk 0 (.tk 1 (.tk 2 (.tk 3 (.tk 4 (.tk 5 (.tk 6 (.tk 7 (.tk 8 (.tk 9 (.tk 10 (.tk 11 (.alt 12 false (.one 13 false (.one 14 false (.one 15 true (.done (some [3, 4, 5, 6, 7, 8]))))) (.alt 13 false (.one 12 false (.one 14 false (.one 15 true (.done (some [3, 4, 5, 6, 7, 8]))))) (.nil)))))))))))))))) (.seq (.reg [.s (.build 35 [.int .i64 0, .ff, .int .i64 0, .int .i64 0, .int .i64 0, .int .i64 0] []), .s (.alloc 9 [.int .i64 0, .ff, .int .i64 0, .int .i64 0, .int .i64 0, .int .i64 0]), .s (.store 6 (.t 9) (.t 35))]) (.seq (.seq (.reg [.s (.fa 36 (.t 5) 0), .s (.load 37 false 1 (.t 36))]) (.blk 0 (.seq (.reg [.s (.bin 39 .eql (.t 37) (.k (.v (.c (.int .i64 10))))), .s (.mv 38 (.t 39))]) (.cond (.t 38) (.reg [.s (.fa 41 (.t 3) 7), .s (.load 42 true 2 (.t 41)), .s (.load 43 true 6 (.t 7)), .s (.fa 44 (.t 7) 0), .s (.load 45 false 1 (.t 44)), .s (.fa 46 (.t 5) 4), .s (.load 47 false 1 (.t 46)), .s (.bin 48 .add (.t 45) (.t 47)), .s (.call (some 49) 89 [(.t 42), (.t 43), (.t 48)]), .s (.mv 40 (.t 49)), .s (.ext 50 (.t 40) 0), .s (.ext 51 (.t 40) 1), .s (.store 6 (.t 9) (.t 50)), .s (.mv 6 (.t 51))]) (.seq (.reg [.s (.bin 53 .eql (.t 37) (.k (.v (.c (.int .i64 11))))), .s (.mv 52 (.t 53))]) (.cond (.t 52) (.reg [.s (.fa 54 (.t 3) 7), .s (.load 55 true 2 (.t 54)), .s (.load 56 true 6 (.t 7)), .s (.fa 57 (.t 7) 0), .s (.load 58 false 1 (.t 57)), .s (.fa 59 (.t 5) 4), .s (.load 60 false 1 (.t 59)), .s (.bin 61 .add (.t 58) (.t 60)), .s (.load 62 true 6 (.t 8)), .s (.call (some 63) 90 [(.t 55), (.t 56), (.t 61), (.t 62)]), .s (.mv 6 (.t 63))]) (.skip))))))) (.seq (.seq (.reg [.s (.mv 64 (.t 6)), .s (.bin 65 .neq (.t 64) (.k (.v (.c (.int .i64 0)))))]) (.cond (.t 65) (.seq (.reg [.s (.mv 66 (.t 6)), .s (.fa 67 (.t 3) 1), .s (.load 68 true 6 (.t 67)), .s (.call (some 69) 88 [(.t 66), (.t 68)]), .s (.store 22 (.t 4) (.t 69))]) (.ret)) (.skip))) (.seq (.reg [.s (.load 70 true 5 (.t 5)), .s (.fa 71 (.t 3) 1), .s (.load 72 true 6 (.t 71)), .s (.load 73 true 6 (.t 7)), .s (.load 74 true 6 (.t 8)), .s (.load 75 true 6 (.t 9)), .s (.call (some 76) 91 [(.t 70), (.t 72), (.t 73), (.t 74), (.t 75)]), .s (.store 22 (.t 4) (.t 76))]) (.ret))))))))⟩
def c_impl_effectOf : Fun := ⟨59, [], fun ts K => as2 ts fun t0 t1 => arC (pL .inst) t0 fun l => arG pStateT t1 fun s => chk (l.length ≤ 2147483647 ∧ LenOk s) (K (tG ((effE l s).tc [])) [])⟩
theorem run_impl_effectOf (l : List (FT.Ty .inst)) (s : State) (hpre : l.length ≤ 2147483647 ∧ LenOk s) : runK [c_impl_Fetch, c_impl_trapped, c_impl_Read, c_impl_writeCode, c_impl_Work] (0) [] pf_impl_effectOf [tL false .inst l, tG (s.tc false [])] fun r o => r = tG ((effE l s).tc []) ∧ o = [] := by
  obtain ⟨l1, l2, l3, l4⟩ := hpre
  have l5 : LMem s.mem 2147483647 := ⟨by omega, by omega⟩
  conv => whnf
  repeat' (first | (refine sel_i (fun h => ?_) (fun h => ?_) <;> conv => whnf) | (refine chk_c ?_ ?_ <;> conv => whnf) | (refine And.intro ?_ rfl) | (refine And.intro ?_ ?_ <;> conv => whnf))
  all_goals (try simp only [etaKey, etaWord, etaInst, etaEff, etaMemory, bne_iff_ne, ne_eq, bne_eq_false_iff_eq, beq_iff_eq, beq_eq_false_iff_ne, Bool.not_eq_true', Bool.not_eq_false', decide_eq_true_eq, decide_eq_false_iff_not] at *)
  all_goals first
    | (refine ⟨?_⟩; first | assumption | omega | decide)
    | contradiction
    | (refine ⟨?_⟩; have := fetchI_in (by assumption); omega)
    | (unfold effE memE; simp only [*, ne_eq, not_true_eq_false, not_false_eq_true, if_true, if_false, Int.reduceEq]; rfl)
    | trace_state
theorem ok_impl_effectOf : FunOk Tryz.prog c_impl_effectOf := funOk (E := [c_impl_Fetch, c_impl_trapped, c_impl_Read, c_impl_writeCode, c_impl_Work]) (envOk_cons ok_impl_Fetch (envOk_cons ok_impl_trapped (envOk_cons ok_impl_Read (envOk_cons ok_impl_writeCode (envOk_cons ok_impl_Work (envOk_nil)))))) mixd Tryz.func59 (pf := pf_impl_effectOf) (by kernel_rfl) fun ts K h => by
  obtain ⟨t0, t1, e0, h⟩ := as2_out h
  subst e0
  obtain ⟨l, e1, hq⟩ := arC_out (rd_l .inst) h
  clear h
  subst e1
  have h := hq
  clear hq
  obtain ⟨s, e1, hq⟩ := arG_out rd_state h
  clear h
  subst e1
  have h := hq
  clear hq
  obtain ⟨hpre, h⟩ := chk_o h
  exact ⟨_, _, h, Nat.le_of_ble_eq_true (show Nat.ble 2 Tryz.f59.ntmps = true by kernel_rfl), _, run_impl_effectOf l s hpre⟩

def pf_spec_l9Apply : PF := ⟨[.c 4 true 10], .seq (.reg [.s (.box 2 (.t 0)), .s (.box 3 (.t 1)), .s (.alloc 4 [.nils .word, .int .i64 0, .ff, .int .i64 0, .int .i64 0, .int .i64 0, .int .i64 0, .nils .word, .nils .bool, .int .i64 0])]) (.seq (.seq (.reg [.s (.fa 5 (.t 3) 1), .s (.load 6 false 1 (.t 5)), .s (.call (some 7) 73 [(.t 6), (.k (.v (.c (.int .i64 0)))), (.k (.v (.c (.int .i64 7))))])]) (.cond (.t 7) (.reg [.s (.fa 8 (.t 2) 0), .s (.load 9 false 1 (.t 8)), .s (.fa 10 (.t 3) 1), .s (.load 11 false 1 (.t 10)), .s (.fa 12 (.t 3) 2), .s (.load 13 true 6 (.t 12)), .s (.ia 14 .word (.t 9) (.t 11)), .s (.store 6 (.t 14) (.t 13))]) (.skip))) (.seq (.seq (.reg [.s (.fa 15 (.t 3) 14), .s (.load 16 false 1 (.t 15)), .s (.call (some 17) 73 [(.t 16), (.k (.v (.c (.int .i64 0)))), (.k (.v (.c (.int .i64 23))))])]) (.cond (.t 17) (.reg [.s (.fa 18 (.t 2) 7), .s (.fa 19 (.t 18) 0), .s (.load 20 false 1 (.t 19)), .s (.fa 21 (.t 3) 14), .s (.load 22 false 1 (.t 21)), .s (.fa 23 (.t 3) 15), .s (.load 24 true 6 (.t 23)), .s (.ia 25 .word (.t 20) (.t 22)), .s (.store 6 (.t 25) (.t 24))]) (.skip))) (.seq (.seq (.reg [.s (.fa 26 (.t 3) 21), .s (.load 27 false 1 (.t 26)), .s (.call (some 28) 73 [(.t 27), (.k (.v (.c (.int .i64 0)))), (.k (.v (.c (.int .i64 23))))])]) (.cond (.t 28) (.reg [.s (.fa 29 (.t 2) 7), .s (.fa 30 (.t 29) 1), .s (.load 31 false 1 (.t 30)), .s (.fa 32 (.t 3) 21), .s (.load 33 false 1 (.t 32)), .s (.ia 34 .bool (.t 31) (.t 33)), .s (.store 1 (.t 34) (.k (.v (.c .tt))))]) (.skip))) (.seq (.reg [.s (.fa 35 (.t 3) 8), .s (.load 36 true 6 (.t 35)), .s (.fa 37 (.t 2) 1), .s (.store 6 (.t 37) (.t 36))]) (.seq (.reg [.s (.load 38 true 10 (.t 2)), .s (.store 10 (.t 4) (.t 38))]) (.ret))))))⟩
def c_spec_l9Apply : Fun := ⟨55, [true, false], fun ts K => as2 ts fun t0 t1 => arG pStateO t0 fun s => arG pEffT t1 fun e => chk (LenOk s) (K (tG ((putE s e).tc true [])) ([.v (.g [.unk, .int .i64 s.pc.n, .bool s.pc.is, .int .i64 s.pc.key.base, .int .i64 s.pc.key.top, .int .i64 s.pc.key.perms, .int .i64 s.pc.key.sealed, .unk, .unk, .int .i64 s.trap])]))⟩
theorem run_spec_l9Apply (s : State) (e : Eff) (hpre : LenOk s) : runK [c_spec_l1In] (0) [true, false] pf_spec_l9Apply [tG (s.tc true []), tG (e.tc [])] fun r o => r = tG ((putE s e).tc true []) ∧ o = [.v (.g [.unk, .int .i64 s.pc.n, .bool s.pc.is, .int .i64 s.pc.key.base, .int .i64 s.pc.key.top, .int .i64 s.pc.key.perms, .int .i64 s.pc.key.sealed, .unk, .unk, .int .i64 s.trap])] := by
  obtain ⟨l2, l3, l4⟩ := hpre
  conv => whnf
  repeat' (first | (refine sel_i (fun h => ?_) (fun h => ?_) <;> conv => whnf) | (refine chk_c ?_ ?_ <;> conv => whnf) | (refine And.intro ?_ rfl) | (refine And.intro ?_ ?_ <;> conv => whnf))
  all_goals (try simp only [etaKey, etaWord, etaInst, etaEff, etaMemory, bne_iff_ne, ne_eq, bne_eq_false_iff_eq, beq_iff_eq, beq_eq_false_iff_ne, Bool.not_eq_true', Bool.not_eq_false', decide_eq_true_eq, decide_eq_false_iff_not] at *)
  all_goals first
    | (refine ⟨?_⟩; simp only [inR_t, inR_f] at *; omega)
    | (unfold putE; simp only [*, if_true, if_false, Bool.false_eq_true]; first | done | rfl)
    | trace_state
theorem ok_spec_l9Apply : FunOk Tryz.prog c_spec_l9Apply := funOk (E := [c_spec_l1In]) (envOk_cons ok_spec_l1In (envOk_nil)) mixd Tryz.func55 (pf := pf_spec_l9Apply) (by kernel_rfl) fun ts K h => by
  obtain ⟨t0, t1, e0, h⟩ := as2_out h
  subst e0
  obtain ⟨s, e1, hq⟩ := arG_out rd_stateO h
  clear h
  subst e1
  have h := hq
  clear hq
  obtain ⟨e, e1, hq⟩ := arG_out rd_eff h
  clear h
  subst e1
  have h := hq
  clear hq
  obtain ⟨hpre, h⟩ := chk_o h
  exact ⟨_, _, h, Nat.le_of_ble_eq_true (show Nat.ble 2 Tryz.f55.ntmps = true by kernel_rfl), _, run_spec_l9Apply s e hpre⟩

def pf_impl_State_put : PF := ⟨[], .seq (.reg [.s (.box 3 (.t 1))]) (.seq (.seq (.reg [.s (.fa 4 (.t 3) 1), .s (.load 5 false 1 (.t 4)), .s (.call (some 6) 86 [(.t 5), (.k (.v (.c (.int .i64 0)))), (.k (.v (.c (.int .i64 7))))])]) (.cond (.t 6) (.rgd [.s (.mv 7 (.t 0)), .s (.nchk 8 (.t 7)), .s (.fa 9 (.t 8) 0), .s (.load 10 false 1 (.t 9)), .s (.fa 11 (.t 3) 1), .s (.load 12 false 1 (.t 11)), .s (.fa 13 (.t 3) 2), .s (.load 14 true 6 (.t 13)), .s (.ia 15 .word (.t 10) (.t 12)), .s (.store 6 (.t 15) (.t 14))] (.tk 0 (.tk 1 (.tk 2 (.tk 3 (.tk 4 (.tk 5 (.tk 6 (.tk 7 (.tk 8 (.one 9 true (.done none)))))))))))) (.skip))) (.seq (.seq (.reg [.s (.fa 16 (.t 3) 14), .s (.load 17 false 1 (.t 16)), .s (.call (some 18) 86 [(.t 17), (.k (.v (.c (.int .i64 0)))), (.k (.v (.c (.int .i64 23))))])]) (.cond (.t 18) (.rgd [.s (.mv 19 (.t 0)), .s (.nchk 20 (.t 19)), .s (.fa 21 (.t 20) 7), .s (.fa 22 (.t 21) 0), .s (.load 23 false 1 (.t 22)), .s (.fa 24 (.t 3) 14), .s (.load 25 false 1 (.t 24)), .s (.fa 26 (.t 3) 15), .s (.load 27 true 6 (.t 26)), .s (.ia 28 .word (.t 23) (.t 25)), .s (.store 6 (.t 28) (.t 27))] (.tk 0 (.tk 1 (.tk 2 (.tk 3 (.tk 4 (.tk 5 (.tk 6 (.tk 7 (.tk 8 (.tk 9 (.one 10 true (.done none))))))))))))) (.skip))) (.seq (.seq (.reg [.s (.fa 29 (.t 3) 21), .s (.load 30 false 1 (.t 29)), .s (.call (some 31) 86 [(.t 30), (.k (.v (.c (.int .i64 0)))), (.k (.v (.c (.int .i64 23))))])]) (.cond (.t 31) (.rgd [.s (.mv 32 (.t 0)), .s (.nchk 33 (.t 32)), .s (.fa 34 (.t 33) 7), .s (.fa 35 (.t 34) 1), .s (.load 36 false 1 (.t 35)), .s (.fa 37 (.t 3) 21), .s (.load 38 false 1 (.t 37)), .s (.ia 39 .bool (.t 36) (.t 38)), .s (.store 1 (.t 39) (.k (.v (.c .tt))))] (.tk 0 (.tk 1 (.tk 2 (.tk 3 (.tk 4 (.tk 5 (.tk 6 (.tk 7 (.one 8 true (.done none))))))))))) (.skip))) (.reg [.s (.mv 40 (.t 0)), .s (.fa 41 (.t 3) 8), .s (.load 42 true 6 (.t 41)), .s (.nchk 43 (.t 40)), .s (.fa 44 (.t 43) 1), .s (.store 6 (.t 44) (.t 42))]))))⟩
def c_impl_State_put : Fun := ⟨61, [true, false], fun ts K => as2 ts fun t0 t1 => arQ pStateO t0 fun s => arG pEffT t1 fun e => chk (LenOk s) (K (.tup []) ([.v (.ptr true 0 ((putE s e).tc true []))]))⟩
theorem run_impl_State_put (s : State) (e : Eff) (hpre : LenOk s) : runK [c_impl_in] (0) [true, false] pf_impl_State_put [.v (.ptr true 0 (s.tc true [])), tG (e.tc [])] fun r o => r = .tup [] ∧ o = [.v (.ptr true 0 ((putE s e).tc true []))] := by
  obtain ⟨l2, l3, l4⟩ := hpre
  conv => whnf
  repeat' (first | (refine sel_i (fun h => ?_) (fun h => ?_) <;> conv => whnf) | (refine chk_c ?_ ?_ <;> conv => whnf) | (refine And.intro ?_ rfl) | (refine And.intro ?_ ?_ <;> conv => whnf))
  all_goals (try simp only [etaKey, etaWord, etaInst, etaEff, etaMemory, bne_iff_ne, ne_eq, bne_eq_false_iff_eq, beq_iff_eq, beq_eq_false_iff_ne, Bool.not_eq_true', Bool.not_eq_false', decide_eq_true_eq, decide_eq_false_iff_not] at *)
  all_goals first
    | (refine ⟨?_⟩; simp only [inR_t, inR_f] at *; omega)
    | (unfold putE; simp only [*, if_true, if_false, Bool.false_eq_true]; first | done | rfl)
    | trace_state
theorem ok_impl_State_put : FunOk Tryz.prog c_impl_State_put := funOk (E := [c_impl_in]) (envOk_cons ok_impl_in (envOk_nil)) mixd Tryz.func61 (pf := pf_impl_State_put) (by kernel_rfl) fun ts K h => by
  obtain ⟨t0, t1, e0, h⟩ := as2_out h
  subst e0
  obtain ⟨s, e1, hq⟩ := arQ_out rd_stateO h
  clear h
  subst e1
  have h := hq
  clear hq
  obtain ⟨e, e1, hq⟩ := arG_out rd_eff h
  clear h
  subst e1
  have h := hq
  clear hq
  obtain ⟨hpre, h⟩ := chk_o h
  exact ⟨_, _, h, Nat.le_of_ble_eq_true (show Nat.ble 2 Tryz.f61.ntmps = true by kernel_rfl), _, run_impl_State_put s e hpre⟩

theorem stateOk_trap {s : State} (h : stateOk s = true) : 0 ≤ s.trap ∧ s.trap ≤ 5 := by
  simp only [stateOk, Bool.and_eq_true, inR_t] at h; exact h.2
theorem stepS_no {l : List Inst} {s : State} (h : stateOk s = false) : stepS l s = zState := if_pos h
theorem stepS_trap {l : List Inst} {s : State} (h : stateOk s = true) (h2 : ¬ s.trap = 0) : stepS l s = s := by
  unfold stepS; rw [if_neg (by rw [h]; decide), if_pos h2]
theorem stepS_e {l : List Inst} {s : State} (h : stateOk s = true) (h2 : s.trap = 0) (h3 : ¬ (effE l s).trap = 0) : stepS l s = ⟨s.regs, s.pc, s.mem, (effE l s).trap⟩ := by
  unfold stepS; rw [if_neg (by rw [h]; decide), if_neg (by simpa using h2), if_pos h3]
theorem stepS_0 {l : List Inst} {s : State} (h : stateOk s = true) (h2 : s.trap = 0) (h3 : (effE l s).trap = 0) : stepS l s = putE s (effE l s) := by
  unfold stepS; rw [if_neg (by rw [h]; decide), if_neg (by simpa using h2), if_neg (by simpa using h3)]
theorem trapE_trap (c : Int) (pc : Word) : (trapE c pc).trap = c := rfl

def pf_impl_Step : PF := ⟨[.c 4 true 10], .seq (.reg [.s (.box 3 (.t 1)), .s (.alloc 4 [.nils .word, .int .i64 0, .ff, .int .i64 0, .int .i64 0, .int .i64 0, .int .i64 0, .nils .word, .nils .bool, .int .i64 0])]) (.seq (.seq (.reg [.s (.load 7 true 10 (.t 3)), .s (.call (some 8) 58 [(.t 7)]), .s (.bnot 9 (.t 8))]) (.cond (.t 9) (.seq (.reg [.s (.build 10 [.nils .word, .int .i64 0, .ff, .int .i64 0, .int .i64 0, .int .i64 0, .int .i64 0, .nils .word, .nils .bool, .int .i64 0] []), .s (.store 10 (.t 4) (.t 10))]) (.ret)) (.skip))) (.seq (.reg [.s (.load 11 true 10 (.t 3)), .s (.call (some 12) 60 [(.t 11)]), .s (.alloc 5 [.nils .word, .int .i64 0, .ff, .int .i64 0, .int .i64 0, .int .i64 0, .int .i64 0, .nils .word, .nils .bool, .int .i64 0]), .s (.store 10 (.t 5) (.t 12))]) (.seq (.seq (.reg [.s (.fa 13 (.t 3) 9), .s (.load 14 false 1 (.t 13)), .s (.bin 15 .neq (.t 14) (.k (.v (.c (.int .i64 0)))))]) (.cond (.t 15) (.seq (.reg [.s (.load 16 true 10 (.t 5)), .s (.store 10 (.t 4) (.t 16))]) (.ret)) (.skip))) (.seq (.reg [.s (.mv 17 (.t 0)), .s (.load 18 true 10 (.t 3)), .s (.call (some 19) 59 [(.t 17), (.t 18)]), .s (.alloc 6 [.int .i64 0, .int .i64 0, .int .i64 0, .ff, .int .i64 0, .int .i64 0, .int .i64 0, .int .i64 0, .int .i64 0, .ff, .int .i64 0, .int .i64 0, .int .i64 0, .int .i64 0, .int .i64 0, .int .i64 0, .ff, .int .i64 0, .int .i64 0, .int .i64 0, .int .i64 0, .int .i64 0]), .s (.store 22 (.t 6) (.t 19))]) (.seq (.seq (.reg [.s (.fa 20 (.t 6) 0), .s (.load 21 false 1 (.t 20)), .s (.bin 22 .neq (.t 21) (.k (.v (.c (.int .i64 0)))))]) (.cond (.t 22) (.seq (.reg [.s (.fa 23 (.t 6) 0), .s (.load 24 false 1 (.t 23)), .s (.fa 25 (.t 5) 9), .s (.store 1 (.t 25) (.t 24))]) (.seq (.reg [.s (.load 26 true 10 (.t 5)), .s (.store 10 (.t 4) (.t 26))]) (.ret))) (.skip))) (.seq (.reg [.s (.load 27 true 22 (.t 6)), .s (.call (some 28) 61 [(.t 5), (.t 27)])]) (.seq (.reg [.s (.load 29 true 10 (.t 5)), .s (.store 10 (.t 4) (.t 29))]) (.ret))))))))⟩
def c_impl_Step : Fun := ⟨34, [], fun ts K => as2 ts fun t0 t1 => arC (pL .inst) t0 fun l => arG pStateT t1 fun s => chk (l.length ≤ 2147483647 ∧ LState s 2147483647) (K (tG ((stepS l s).tc true [])) [])⟩
theorem run_impl_Step (l : List (FT.Ty .inst)) (s : State) (hpre : l.length ≤ 2147483647 ∧ LState s 2147483647) : runK [c_impl_StateOk, c_impl_effectOf, c_impl_cloneState, c_impl_State_put] (0) [] pf_impl_Step [tL false .inst l, tG (s.tc false [])] fun r o => r = tG ((stepS l s).tc true []) ∧ o = [] := by
  obtain ⟨l1, l2⟩ := hpre
  conv => whnf
  repeat' (first | (refine sel_i (fun h => ?_) (fun h => ?_) <;> conv => whnf) | (refine chk_c ?_ ?_ <;> conv => whnf) | (refine And.intro ?_ rfl) | (refine And.intro ?_ ?_ <;> conv => whnf))
  all_goals (try simp only [etaKey, etaWord, etaInst, etaEff, etaMemory, etaState, bne_iff_ne, ne_eq, bne_eq_false_iff_eq, beq_iff_eq, beq_eq_false_iff_ne, Bool.not_eq_true', Bool.not_eq_false', decide_eq_true_eq, decide_eq_false_iff_not] at *)
  all_goals first
    | (refine ⟨?_⟩; assumption)
    | (refine ⟨?_⟩; exact stateOk_len (by assumption))
    | (refine ⟨?_⟩; exact ⟨l1, stateOk_len (by assumption)⟩)
    | (rw [stepS_no (by assumption)]; rfl)
    | (rw [stepS_trap (by assumption) (by assumption)]; rfl)
    | (rw [stepS_e (by assumption) (by assumption) (by assumption)]; rfl)
    | (rw [stepS_0 (by assumption) (by assumption) (by assumption)]; rfl)
    | trace_state
theorem ok_impl_Step : FunOk Tryz.prog c_impl_Step := funOk (E := [c_impl_StateOk, c_impl_effectOf, c_impl_cloneState, c_impl_State_put]) (envOk_cons ok_impl_StateOk (envOk_cons ok_impl_effectOf (envOk_cons ok_impl_cloneState (envOk_cons ok_impl_State_put (envOk_nil))))) mixd Tryz.func34 (pf := pf_impl_Step) (by kernel_rfl) fun ts K h => by
  obtain ⟨t0, t1, e0, h⟩ := as2_out h
  subst e0
  obtain ⟨l, e1, hq⟩ := arC_out (rd_l .inst) h
  clear h
  subst e1
  have h := hq
  clear hq
  obtain ⟨s, e1, hq⟩ := arG_out rd_state h
  clear h
  subst e1
  have h := hq
  clear hq
  obtain ⟨hpre, h⟩ := chk_o h
  exact ⟨_, _, h, Nat.le_of_ble_eq_true (show Nat.ble 2 Tryz.f34.ntmps = true by kernel_rfl), _, run_impl_Step l s hpre⟩

def pf_spec_Step : PF := ⟨[.c 4 true 10], .seq (.reg [.s (.box 3 (.t 1)), .s (.alloc 4 [.nils .word, .int .i64 0, .ff, .int .i64 0, .int .i64 0, .int .i64 0, .int .i64 0, .nils .word, .nils .bool, .int .i64 0])]) (.seq (.seq (.reg [.s (.load 13 true 10 (.t 3)), .s (.call (some 14) 49 [(.t 13)]), .s (.bnot 15 (.t 14))]) (.cond (.t 15) (.seq (.reg [.s (.build 16 [.nils .word, .int .i64 0, .ff, .int .i64 0, .int .i64 0, .int .i64 0, .int .i64 0, .nils .word, .nils .bool, .int .i64 0] []), .s (.store 10 (.t 4) (.t 16))]) (.ret)) (.skip))) (.seq (.reg [.s (.load 17 true 10 (.t 3)), .s (.call (some 18) 52 [(.t 17)]), .s (.alloc 5 [.nils .word, .int .i64 0, .ff, .int .i64 0, .int .i64 0, .int .i64 0, .int .i64 0, .nils .word, .nils .bool, .int .i64 0]), .s (.store 10 (.t 5) (.t 18))]) (.seq (.seq (.reg [.s (.fa 19 (.t 3) 9), .s (.load 20 false 1 (.t 19)), .s (.bin 21 .neq (.t 20) (.k (.v (.c (.int .i64 0)))))]) (.cond (.t 21) (.seq (.reg [.s (.load 22 true 10 (.t 5)), .s (.store 10 (.t 4) (.t 22))]) (.ret)) (.skip))) (.seq (.reg [.s (.mv 24 (.t 0)), .s (.fa 25 (.t 3) 1), .s (.load 26 true 6 (.t 25)), .s (.call (some 27) 50 [(.t 24), (.t 26)]), .s (.mv 23 (.t 27)), .s (.ext 28 (.t 23) 0), .s (.ext 29 (.t 23) 1), .s (.alloc 6 [.int .i64 0, .int .i64 0, .int .i64 0, .int .i64 0, .int .i64 0]), .s (.store 5 (.t 6) (.t 28)), .s (.mv 7 (.t 29))]) (.seq (.seq (.reg [.s (.mv 30 (.t 7)), .s (.bin 31 .eql (.t 30) (.k (.v (.c (.int .i64 0)))))]) (.cond (.t 31) (.seq (.rgd [.s (.fa 32 (.t 3) 0), .s (.load 33 false 1 (.t 32)), .s (.fa 34 (.t 6) 2), .s (.load 35 false 1 (.t 34)), .s (.ia 36 .word (.t 33) (.t 35)), .s (.load 37 true 6 (.t 36)), .s (.fa 38 (.t 3) 0), .s (.load 39 false 1 (.t 38)), .s (.fa 40 (.t 6) 3), .s (.load 41 false 1 (.t 40)), .s (.ia 42 .word (.t 39) (.t 41)), .s (.load 43 true 6 (.t 42)), .s (.alloc 8 [.int .i64 0, .ff, .int .i64 0, .int .i64 0, .int .i64 0, .int .i64 0]), .s (.alloc 9 [.int .i64 0, .ff, .int .i64 0, .int .i64 0, .int .i64 0, .int .i64 0]), .s (.store 6 (.t 8) (.t 37)), .s (.store 6 (.t 9) (.t 43))] (.tk 0 (.tk 1 (.tk 2 (.tk 3 (.tk 4 (.tk 5 (.tk 6 (.tk 7 (.tk 8 (.tk 9 (.tk 10 (.tk 11 (.alt 12 false (.one 13 false (.one 14 false (.one 15 true (.done (some [3, 4, 5, 6, 8, 9]))))) (.alt 13 false (.one 12 false (.one 14 false (.one 15 true (.done (some [3, 4, 5, 6, 8, 9]))))) (.nil)))))))))))))))) (.seq (.reg [.s (.fa 45 (.t 3) 7), .s (.load 46 true 2 (.t 45)), .s (.load 47 true 5 (.t 6)), .s (.load 48 true 6 (.t 8)), .s (.load 49 true 6 (.t 9)), .s (.call (some 50) 53 [(.t 46), (.t 47), (.t 48), (.t 49)]), .s (.mv 44 (.t 50)), .s (.ext 51 (.t 44) 0), .s (.ext 52 (.t 44) 1), .s (.alloc 10 [.int .i64 0, .ff, .int .i64 0, .int .i64 0, .int .i64 0, .int .i64 0]), .s (.store 6 (.t 10) (.t 51)), .s (.mv 11 (.t 52))]) (.seq (.reg [.s (.load 53 true 5 (.t 6)), .s (.fa 54 (.t 3) 1), .s (.load 55 true 6 (.t 54)), .s (.load 56 true 6 (.t 8)), .s (.load 57 true 6 (.t 9)), .s (.load 58 true 6 (.t 10)), .s (.call (some 59) 54 [(.t 53), (.t 55), (.t 56), (.t 57), (.t 58)]), .s (.alloc 12 [.int .i64 0, .int .i64 0, .int .i64 0, .ff, .int .i64 0, .int .i64 0, .int .i64 0, .int .i64 0, .int .i64 0, .ff, .int .i64 0, .int .i64 0, .int .i64 0, .int .i64 0, .int .i64 0, .int .i64 0, .ff, .int .i64 0, .int .i64 0, .int .i64 0, .int .i64 0, .int .i64 0]), .s (.store 22 (.t 12) (.t 59))]) (.seq (.reg [.s (.mv 60 (.t 11)), .s (.mv 7 (.t 60))]) (.seq (.seq (.reg [.s (.mv 61 (.t 7)), .s (.bin 62 .eql (.t 61) (.k (.v (.c (.int .i64 0)))))]) (.cond (.t 62) (.reg [.s (.fa 63 (.t 12) 0), .s (.load 64 false 1 (.t 63)), .s (.mv 7 (.t 64))]) (.skip))) (.seq (.reg [.s (.mv 65 (.t 7)), .s (.bin 66 .eql (.t 65) (.k (.v (.c (.int .i64 0)))))]) (.cond (.t 66) (.seq (.reg [.s (.load 67 true 10 (.t 5)), .s (.load 68 true 22 (.t 12)), .s (.call (some 69) 55 [(.t 67), (.t 68)]), .s (.store 10 (.t 4) (.t 69))]) (.ret)) (.skip)))))))) (.skip))) (.seq (.reg [.s (.mv 70 (.t 7)), .s (.fa 71 (.t 5) 9), .s (.store 1 (.t 71) (.t 70))]) (.seq (.reg [.s (.load 72 true 10 (.t 5)), .s (.store 10 (.t 4) (.t 72))]) (.ret))))))))⟩
def c_spec_Step : Fun := ⟨28, [], fun ts K => as2 ts fun t0 t1 => arC (pL .inst) t0 fun l => arG pStateT t1 fun s => chk (l.length ≤ 2147483647 ∧ LState s 2147483647) (K (tG ((stepS l s).tc true [])) [])⟩
theorem run_spec_Step (l : List (FT.Ty .inst)) (s : State) (hpre : l.length ≤ 2147483647 ∧ LState s 2147483647) : runK [c_spec_StateOk, c_spec_Fetch, c_spec_l9Copy, c_spec_l9Mem, c_spec_Work, c_spec_l9Apply] (0) [] pf_spec_Step [tL false .inst l, tG (s.tc false [])] fun r o => r = tG ((stepS l s).tc true []) ∧ o = [] := by
  obtain ⟨l1, l2⟩ := hpre
  conv => whnf
  repeat' (first | (refine sel_i (fun h => ?_) (fun h => ?_) <;> conv => whnf) | (refine chk_c ?_ ?_ <;> conv => whnf) | (refine And.intro ?_ rfl) | (refine And.intro ?_ ?_ <;> conv => whnf))
  all_goals (try simp only [etaKey, etaWord, etaInst, etaEff, etaMemory, etaState, bne_iff_ne, ne_eq, bne_eq_false_iff_eq, beq_iff_eq, beq_eq_false_iff_ne, Bool.not_eq_true', Bool.not_eq_false', decide_eq_true_eq, decide_eq_false_iff_not] at *)
  all_goals first
    | contradiction
    | (refine ⟨?_⟩; assumption)
    | (refine ⟨?_⟩; exact l2.2)
    | (refine ⟨?_⟩; exact stateOk_len (by assumption))
    | (have hl := stateOk_len (by assumption); have hx := fetchI_in (by assumption); have l3 := hl.1; refine ⟨?_⟩; omega)
    | (rw [stepS_no (by assumption)]; rfl)
    | (rw [stepS_trap (by assumption) (by assumption)]; rfl)
    | (rw [stepS_e (by assumption) (by assumption) (by unfold effE; simp only [*, ne_eq, not_true_eq_false, not_false_eq_true, trapE_trap, if_true, if_false])]; unfold effE; simp only [*, ne_eq, not_true_eq_false, not_false_eq_true, trapE_trap, if_true, if_false]; rfl)
    | (rw [stepS_0 (by assumption) (by assumption) (by unfold effE; simp only [*, ne_eq, not_true_eq_false, not_false_eq_true, trapE_trap, if_true, if_false])]; unfold effE; simp only [*, ne_eq, not_true_eq_false, not_false_eq_true, trapE_trap, if_true, if_false]; rfl)
    | trace_state
theorem ok_spec_Step : FunOk Tryz.prog c_spec_Step := funOk (E := [c_spec_StateOk, c_spec_Fetch, c_spec_l9Copy, c_spec_l9Mem, c_spec_Work, c_spec_l9Apply]) (envOk_cons ok_spec_StateOk (envOk_cons ok_spec_Fetch (envOk_cons ok_spec_l9Copy (envOk_cons ok_spec_l9Mem (envOk_cons ok_spec_Work (envOk_cons ok_spec_l9Apply (envOk_nil))))))) mixd Tryz.func28 (pf := pf_spec_Step) (by kernel_rfl) fun ts K h => by
  obtain ⟨t0, t1, e0, h⟩ := as2_out h
  subst e0
  obtain ⟨l, e1, hq⟩ := arC_out (rd_l .inst) h
  clear h
  subst e1
  have h := hq
  clear hq
  obtain ⟨s, e1, hq⟩ := arG_out rd_state h
  clear h
  subst e1
  have h := hq
  clear hq
  obtain ⟨hpre, h⟩ := chk_o h
  exact ⟨_, _, h, Nat.le_of_ble_eq_true (show Nat.ble 2 Tryz.f28.ntmps = true by kernel_rfl), _, run_spec_Step l s hpre⟩

def pf_laws_toIns : PF := ⟨[.c 2 true 5], .seq (.reg [.s (.box 1 (.t 0)), .s (.alloc 2 [.int .i64 0, .int .i64 0, .int .i64 0, .int .i64 0, .int .i64 0])]) (.seq (.reg [.s (.alloc 3 [.int .i64 0, .int .i64 0, .int .i64 0, .int .i64 0, .int .i64 0])]) (.seq (.reg [.s (.fa 4 (.t 1) 0), .s (.load 5 false 1 (.t 4)), .s (.fa 6 (.t 3) 0), .s (.store 1 (.t 6) (.t 5))]) (.seq (.reg [.s (.fa 7 (.t 1) 1), .s (.load 8 false 1 (.t 7)), .s (.fa 9 (.t 3) 1), .s (.store 1 (.t 9) (.t 8))]) (.seq (.reg [.s (.fa 10 (.t 1) 2), .s (.load 11 false 1 (.t 10)), .s (.fa 12 (.t 3) 2), .s (.store 1 (.t 12) (.t 11))]) (.seq (.reg [.s (.fa 13 (.t 1) 3), .s (.load 14 false 1 (.t 13)), .s (.fa 15 (.t 3) 3), .s (.store 1 (.t 15) (.t 14))]) (.seq (.reg [.s (.fa 16 (.t 1) 4), .s (.load 17 false 1 (.t 16)), .s (.fa 18 (.t 3) 4), .s (.store 1 (.t 18) (.t 17))]) (.seq (.reg [.s (.load 19 true 5 (.t 3)), .s (.store 5 (.t 2) (.t 19))]) (.ret))))))))⟩
def c_laws_toIns : Fun := ⟨29, [], fun ts K => as1 ts fun t0 => arG pInstT t0 fun a => K (tG (a.tc [])) []⟩
theorem run_laws_toIns (a : Inst) : runK [] (0) [] pf_laws_toIns [tG (a.tc [])] fun r o => r = tG (a.tc []) ∧ o = [] := by
  conv => whnf
  repeat' (first
    | exact rfl
    | exact trivial
    | (refine sel_i (fun h => ?_) (fun h => ?_) <;> conv => whnf)
    | (refine chk_c ?_ ?_ <;> conv => whnf)
    | (refine And.intro ?_ ?_ <;> conv => whnf))
theorem ok_laws_toIns : FunOk Tryz.prog c_laws_toIns := funOk (E := []) (envOk_nil) mixd Tryz.func29 (pf := pf_laws_toIns) (by kernel_rfl) fun ts K h => by
  obtain ⟨t0, e0, h⟩ := as1_out h
  subst e0
  obtain ⟨a, e1, hq⟩ := arG_out rd_inst h
  clear h
  subst e1
  have h := hq
  clear hq
  exact ⟨_, _, h, Nat.le_of_ble_eq_true (show Nat.ble 1 Tryz.f29.ntmps = true by kernel_rfl), _, run_laws_toIns a⟩

def pf_laws_szInsS : PF := ⟨[.t 4], .seq (.reg [.s (.mv 4 (.k (.v (.c (.int .i64 0)))))]) (.seq (.reg [.s (.mv 5 (.t 1)), .s (.mv 6 (.t 0)), .s (.len 7 false (.t 6)), .s (.bin 8 .sub (.t 5) (.t 7)), .s (.mv 1 (.t 8))]) (.seq (.seq (.reg [.s (.mv 9 (.t 1)), .s (.bin 10 .lss (.t 9) (.k (.v (.c (.int .i64 0)))))]) (.cond (.t 10) (.seq (.reg [.s (.mv 4 (.k (.v (.c (.int .i64 (-1))))))]) (.ret)) (.skip))) (.seq (.reg [.s (.mv 11 (.t 1)), .s (.mv 4 (.t 11))]) (.ret))))⟩
def c_laws_szInsS : Fun := ⟨5, [], fun ts K => as2 ts fun t0 t1 => arC (pL .inst) t0 fun a => arC (pI .i64) t1 fun k => chk (a.length ≤ 9223372036854775807 ∧ 0 ≤ k ∧ k ≤ 1048576) (K (tN (szr k a.length)) [])⟩
theorem run_laws_szInsS (a : List (FT.Ty .inst)) (k : Int) (hpre : a.length ≤ 9223372036854775807 ∧ 0 ≤ k ∧ k ≤ 1048576) : runK [] (0) [] pf_laws_szInsS [tL false .inst a, tI .i64 k] fun r o => r = tN (szr k a.length) ∧ o = [] := by
  conv => whnf
  rw [wrap_id (by omega) (by omega)]
  refine sel_i (fun h => ?_) (fun h => ?_) <;> conv => whnf
  · refine ⟨?_, rfl⟩; rw [szr_t (by simpa using h)]
  · refine ⟨?_, rfl⟩; rw [szr_f (by simpa using h)]
theorem ok_laws_szInsS : FunOk Tryz.prog c_laws_szInsS := funOk (E := []) (envOk_nil) mixd Tryz.func5 (pf := pf_laws_szInsS) (by kernel_rfl) fun ts K h => by
  obtain ⟨t0, t1, e0, h⟩ := as2_out h
  subst e0
  obtain ⟨a, e1, hq⟩ := arC_out (rd_l .inst) h
  clear h
  subst e1
  have h := hq
  clear hq
  obtain ⟨k, e1, hq⟩ := arC_out (rd_int .i64) h
  clear h
  subst e1
  have h := hq
  clear hq
  obtain ⟨hpre, h⟩ := chk_o h
  exact ⟨_, _, h, Nat.le_of_ble_eq_true (show Nat.ble 2 Tryz.f5.ntmps = true by kernel_rfl), _, run_laws_szInsS a k hpre⟩

def lb_laws_toInsS_0 : PC := .seq (.seq (.reg [.s (.mv 8 (.t 4)), .s (.mv 9 (.t 0)), .s (.len 10 false (.t 9)), .s (.bin 11 .lss (.t 8) (.t 10))]) (.cond (.t 11) (.skip) (.exit 0))) (.seq (.blk 1 (.reg [.s (.mv 14 (.t 3)), .s (.mv 15 (.t 4)), .s (.mv 16 (.t 0)), .s (.mv 17 (.t 4)), .s (.ia 18 .inst (.t 16) (.t 17)), .s (.load 19 true 5 (.t 18)), .s (.call (some 20) 29 [(.t 19)]), .s (.ia 21 .inst (.t 14) (.t 15)), .s (.store 5 (.t 21) (.t 20))])) (.reg [.s (.mv 12 (.t 4)), .s (.bin 13 .add (.t 12) (.k (.v (.c (.int .i64 1))))), .s (.mv 4 (.t 13))]))
def pf_laws_toInsS : PF := ⟨[.t 2], .seq (.reg [.s (.mv 2 (.k (.v (.c (.nils .inst)))))]) (.seq (.reg [.s (.mv 5 (.t 0)), .s (.len 6 false (.t 5)), .s (.mkS 7 .inst (.t 6)), .s (.mv 3 (.t 7))]) (.seq (.seq (.reg [.s (.mv 4 (.k (.v (.c (.int .i64 0)))))]) (.blk 0 (.loop [0, 3, 4] lb_laws_toInsS_0))) (.seq (.reg [.s (.mv 22 (.t 3)), .s (.mv 2 (.t 22))]) (.ret))))⟩
def c_laws_toInsS : Fun := ⟨8, [], fun ts K => as1 ts fun t0 => arC (pL .inst) t0 fun a => chk (a.length ≤ 2147483647) (K (tL true .inst a) [])⟩
theorem run_laws_toInsS (a : List (FT.Ty .inst)) (hpre : a.length ≤ 2147483647) : runK [c_laws_toIns] (a.length + 1) [] pf_laws_toInsS [tL false .inst a] fun r o => r = tL true .inst a ∧ o = [] := by
  conv => whnf
  refine chk_i ⟨by omega, by omega⟩ ?_
  conv => whnf
  refine loop (α := Nat × List (FT.Ty .inst)) (fun p => ⟨[(0, .v (.c (.sl false .inst 0))), (3, .v (.c (.sl true .inst 1))), (4, .v (.c (.int .i64 (p.1 : Int))))], [(1, some (.flat true .inst none p.2)), (0, some (.flat false .inst none a))], nums.tail.tail, [], false, []⟩)
      (fun p => p.1 ≤ a.length ∧ p.2 = a.take p.1 ++ (List.replicate a.length (FT.zero .inst)).drop p.1) (fun p => a.length - p.1) (fun p R hI hR => ?_) (0, List.replicate a.length (FT.zero .inst)) _ ⟨by simp, by simp⟩ (by simp)
  obtain ⟨i, xs⟩ := p
  obtain ⟨hi, hx⟩ := hI
  dsimp only at hi hx
  have hlen : xs.length = a.length := by rw [hx]; simp; omega
  dsimp only
  conv => whnf
  refine sel_i (fun h2 => ?_) (fun h2 => ?_)
  · have hlt : i < a.length := by simp at h2; omega
    have hge : a[i]? = some (a.getD i (FT.zero .inst)) := by simp [List.getD_eq_getElem?_getD, hlt]
    conv => whnf
    repeat' (refine chk_c ?_ ?_ <;> conv => whnf)
    all_goals first
      | (refine ⟨?_⟩; omega)
      | (refine ⟨?_⟩; simp; done)
      | (refine ⟨?_⟩; simp; omega)
      | skip
    simp (disch := omega) only [wrap_id, Int.toNat_natCast]
    exact hR (i + 1, xs.set i (a.getD i (FT.zero .inst))) ⟨by omega, by rw [hx]; exact set_mid (by simp) (by simpa using hlt) hge⟩ (by simp; omega)
  · have hge : i = a.length := by simp at h2; omega
    subst hge
    conv => whnf
    refine ⟨?_, rfl⟩
    rw [hx, List.take_of_length_le (by omega), List.drop_eq_nil_of_le (by simp), List.append_nil]
theorem ok_laws_toInsS : FunOk Tryz.prog c_laws_toInsS := funOk (E := [c_laws_toIns]) (envOk_cons ok_laws_toIns (envOk_nil)) mixd Tryz.func8 (pf := pf_laws_toInsS) (by kernel_rfl) fun ts K h => by
  obtain ⟨t0, e0, h⟩ := as1_out h
  subst e0
  obtain ⟨a, e1, hq⟩ := arC_out (rd_l .inst) h
  clear h
  subst e1
  have h := hq
  clear hq
  obtain ⟨hpre, h⟩ := chk_o h
  exact ⟨_, _, h, Nat.le_of_ble_eq_true (show Nat.ble 1 Tryz.f8.ntmps = true by kernel_rfl), _, run_laws_toInsS a hpre⟩

def szState (s : State) (k : Int) : Int := szB (szr k s.regs.length) fun k => szMem s.mem k
theorem szMem_ge (m : Mem) {k : Int} (h : 0 ≤ k) : -1 ≤ szMem m k := by
  unfold szMem szB; split
  · omega
  · exact szr_ge
theorem szState_n {s : State} {k : Int} (h0 : k ≤ 1048576) (h : 0 ≤ szState s k) : LState s 1048576 := by
  obtain ⟨h1, h2, _⟩ := szB_pos h
  have h4 := szr_n h1
  have h5 := szMem_n (by omega) h2
  exact ⟨by omega, h5.1⟩
theorem LState.mono {t : State} {n m : Nat} (h : LState t n) (k : n ≤ m) : LState t m := ⟨Nat.le_trans h.1 k, Nat.le_trans h.2.1 k, Nat.le_trans h.2.2 k⟩
theorem lState_of {t : State} (h : WState t) : LState t 9223372036854775807 := ⟨h.1.2, h.2.2.1.1.2, h.2.2.1.2.2⟩
def seenOf (l : List Inst) (s : State) : Seen × Bool :=
  if stateOk s = false ∨ s.trap ≠ 0 then (⟨0, 0, 0, 0⟩, false) else (⟨s.pc.n, (effE l s).r, (effE l s).addr, (effE l s).trap⟩, true)
theorem seenOf_no {l : List Inst} {s : State} (h : stateOk s = false) : seenOf l s = (⟨0, 0, 0, 0⟩, false) := if_pos (.inl h)
theorem seenOf_t {l : List Inst} {s : State} (h : ¬ s.trap = 0) : seenOf l s = (⟨0, 0, 0, 0⟩, false) := if_pos (.inr h)
theorem seenOf_0 {l : List Inst} {s : State} (h : stateOk s = true) (h2 : s.trap = 0) : seenOf l s = (⟨s.pc.n, (effE l s).r, (effE l s).addr, (effE l s).trap⟩, true) :=
  if_neg (by rintro (q | q); · rw [h] at q; cases q
             · exact q h2)

def pf_laws_szState : PF := ⟨[.t 4], .seq (.reg [.s (.box 2 (.t 0)), .s (.mv 4 (.k (.v (.c (.int .i64 0)))))]) (.seq (.reg [.s (.fa 5 (.t 2) 0), .s (.load 6 false 1 (.t 5)), .s (.mv 7 (.t 1)), .s (.call (some 8) 24 [(.t 6), (.t 7)]), .s (.mv 1 (.t 8))]) (.seq (.seq (.reg [.s (.mv 9 (.t 1)), .s (.bin 10 .lss (.t 9) (.k (.v (.c (.int .i64 0)))))]) (.cond (.t 10) (.seq (.reg [.s (.mv 4 (.k (.v (.c (.int .i64 (-1))))))]) (.ret)) (.skip))) (.seq (.reg [.s (.fa 11 (.t 2) 7), .s (.load 12 true 2 (.t 11)), .s (.mv 13 (.t 1)), .s (.call (some 14) 25 [(.t 12), (.t 13)]), .s (.mv 1 (.t 14))]) (.seq (.seq (.reg [.s (.mv 15 (.t 1)), .s (.bin 16 .lss (.t 15) (.k (.v (.c (.int .i64 0)))))]) (.cond (.t 16) (.seq (.reg [.s (.mv 4 (.k (.v (.c (.int .i64 (-1))))))]) (.ret)) (.skip))) (.seq (.reg [.s (.mv 17 (.t 1)), .s (.mv 4 (.t 17))]) (.ret))))))⟩
def c_laws_szState : Fun := ⟨6, [], fun ts K => as2 ts fun t0 t1 => arG pStateT t0 fun m => arC (pI .i64) t1 fun k => chk (LState m 9223372036854775807 ∧ 0 ≤ k ∧ k ≤ 1048576) (K (tN (szState m k)) [])⟩
theorem run_laws_szState (m : State) (k : Int) (hpre : LState m 9223372036854775807 ∧ 0 ≤ k ∧ k ≤ 1048576) : runK [c_laws_szWordS, c_laws_szMemory] (0) [] pf_laws_szState [tG (m.tc false []), tI .i64 k] fun r o => r = tN (szState m k) ∧ o = [] := by
  obtain ⟨⟨l1, l2⟩, hk, hk2⟩ := hpre
  have h0 := szr_le (n := m.regs.length) hk
  conv => whnf
  refine chk_i ⟨l1, hk, hk2⟩ ?_
  conv => whnf
  refine sel_i (fun h => ?_) (fun h => ?_)
  · conv => whnf
    refine ⟨?_, rfl⟩; simp at h; simp [szState, szB, h]
  · have h : 0 ≤ szr k m.regs.length := by simpa using h
    conv => whnf
    refine chk_i ⟨l2, h, show szr k m.regs.length ≤ _ by omega⟩ ?_
    conv => whnf
    repeat' (first | (refine sel_i (fun h => ?_) (fun h => ?_) <;> conv => whnf) | (refine chk_c ?_ ?_ <;> conv => whnf) | (refine And.intro ?_ rfl) | (refine And.intro ?_ ?_ <;> conv => whnf))
    · have h3 : szMem m.mem (szr k m.regs.length) < 0 := by simpa [etaMemory] using h
      have h4 := szMem_ge m.mem (k := szr k m.regs.length) (by assumption)
      have e : szState m k = szMem m.mem (szr k m.regs.length) := by unfold szState szB; rw [if_neg (by omega)]
      rw [e, show szMem m.mem (szr k m.regs.length) = -1 by omega]
    · have e : szState m k = szMem m.mem (szr k m.regs.length) := by unfold szState szB; rw [if_neg (by omega)]
      rw [e]
theorem ok_laws_szState : FunOk Tryz.prog c_laws_szState := funOk (E := [c_laws_szWordS, c_laws_szMemory]) (envOk_cons ok_laws_szWordS (envOk_cons ok_laws_szMemory (envOk_nil))) mixd Tryz.func6 (pf := pf_laws_szState) (by kernel_rfl) fun ts K h => by
  obtain ⟨t0, t1, e0, h⟩ := as2_out h
  subst e0
  obtain ⟨m, e1, hq⟩ := arG_out rd_state h
  clear h
  subst e1
  have h := hq
  clear hq
  obtain ⟨k, e1, hq⟩ := arC_out (rd_int .i64) h
  clear h
  subst e1
  have h := hq
  clear hq
  obtain ⟨hpre, h⟩ := chk_o h
  exact ⟨_, _, h, Nat.le_of_ble_eq_true (show Nat.ble 2 Tryz.f6.ntmps = true by kernel_rfl), _, run_laws_szState m k hpre⟩

def pf_laws_toState : PF := ⟨[.c 2 true 10], .seq (.reg [.s (.box 1 (.t 0)), .s (.alloc 2 [.nils .word, .int .i64 0, .ff, .int .i64 0, .int .i64 0, .int .i64 0, .int .i64 0, .nils .word, .nils .bool, .int .i64 0])]) (.seq (.reg [.s (.alloc 3 [.nils .word, .int .i64 0, .ff, .int .i64 0, .int .i64 0, .int .i64 0, .int .i64 0, .nils .word, .nils .bool, .int .i64 0])]) (.seq (.reg [.s (.fa 4 (.t 1) 0), .s (.load 5 false 1 (.t 4)), .s (.call (some 6) 30 [(.t 5)]), .s (.fa 7 (.t 3) 0), .s (.store 1 (.t 7) (.t 6))]) (.seq (.reg [.s (.fa 8 (.t 1) 1), .s (.load 9 true 6 (.t 8)), .s (.call (some 10) 31 [(.t 9)]), .s (.fa 11 (.t 3) 1), .s (.store 6 (.t 11) (.t 10))]) (.seq (.reg [.s (.fa 12 (.t 1) 7), .s (.load 13 true 2 (.t 12)), .s (.call (some 14) 32 [(.t 13)]), .s (.fa 15 (.t 3) 7), .s (.store 2 (.t 15) (.t 14))]) (.seq (.reg [.s (.fa 16 (.t 1) 9), .s (.load 17 false 1 (.t 16)), .s (.fa 18 (.t 3) 9), .s (.store 1 (.t 18) (.t 17))]) (.seq (.reg [.s (.load 19 true 10 (.t 3)), .s (.store 10 (.t 2) (.t 19))]) (.ret)))))))⟩
def c_laws_toState : Fun := ⟨9, [], fun ts K => as1 ts fun t0 => arG pStateT t0 fun m => chk (LState m 2147483647) (K (tG (m.tc true [])) [])⟩
theorem run_laws_toState (m : State) (hpre : LState m 2147483647) : runK [c_laws_toWordS, c_laws_toWord, c_laws_toMemory] (0) [] pf_laws_toState [tG (m.tc false [])] fun r o => r = tG (m.tc true []) ∧ o = [] := by
  obtain ⟨l1, l2, l3⟩ := hpre
  conv => whnf
  repeat' (first | (refine chk_c ?_ ?_ <;> conv => whnf) | (refine And.intro ?_ ?_ <;> conv => whnf))
  all_goals first
    | (refine ⟨?_⟩; omega)
    | (refine ⟨?_⟩; simp; done)
    | (refine ⟨?_⟩; simp [LMem, LTwo] at *; omega)
    | rfl
    | exact True.intro
    | exact ⟨rfl, rfl⟩
theorem ok_laws_toState : FunOk Tryz.prog c_laws_toState := funOk (E := [c_laws_toWordS, c_laws_toWord, c_laws_toMemory]) (envOk_cons ok_laws_toWordS (envOk_cons ok_laws_toWord (envOk_cons ok_laws_toMemory (envOk_nil)))) mixd Tryz.func9 (pf := pf_laws_toState) (by kernel_rfl) fun ts K h => by
  obtain ⟨t0, e0, h⟩ := as1_out h
  subst e0
  obtain ⟨m, e1, hq⟩ := arG_out rd_state h
  clear h
  subst e1
  have h := hq
  clear hq
  obtain ⟨hpre, h⟩ := chk_o h
  exact ⟨_, _, h, Nat.le_of_ble_eq_true (show Nat.ble 1 Tryz.f9.ntmps = true by kernel_rfl), _, run_laws_toState m hpre⟩

def pf_laws_eqSeen : PF := ⟨[.t 4], .seq (.reg [.s (.box 2 (.t 0)), .s (.box 3 (.t 1)), .s (.mv 4 (.k (.v (.c .ff))))]) (.seq (.seq (.reg [.s (.fa 5 (.t 2) 0), .s (.load 6 false 1 (.t 5)), .s (.fa 7 (.t 3) 0), .s (.load 8 false 1 (.t 7)), .s (.bin 9 .neq (.t 6) (.t 8))]) (.cond (.t 9) (.seq (.reg [.s (.mv 4 (.k (.v (.c .ff))))]) (.ret)) (.skip))) (.seq (.seq (.reg [.s (.fa 10 (.t 2) 1), .s (.load 11 false 1 (.t 10)), .s (.fa 12 (.t 3) 1), .s (.load 13 false 1 (.t 12)), .s (.bin 14 .neq (.t 11) (.t 13))]) (.cond (.t 14) (.seq (.reg [.s (.mv 4 (.k (.v (.c .ff))))]) (.ret)) (.skip))) (.seq (.seq (.reg [.s (.fa 15 (.t 2) 2), .s (.load 16 false 1 (.t 15)), .s (.fa 17 (.t 3) 2), .s (.load 18 false 1 (.t 17)), .s (.bin 19 .neq (.t 16) (.t 18))]) (.cond (.t 19) (.seq (.reg [.s (.mv 4 (.k (.v (.c .ff))))]) (.ret)) (.skip))) (.seq (.seq (.reg [.s (.fa 20 (.t 2) 3), .s (.load 21 false 1 (.t 20)), .s (.fa 22 (.t 3) 3), .s (.load 23 false 1 (.t 22)), .s (.bin 24 .neq (.t 21) (.t 23))]) (.cond (.t 24) (.seq (.reg [.s (.mv 4 (.k (.v (.c .ff))))]) (.ret)) (.skip))) (.seq (.reg [.s (.mv 4 (.k (.v (.c .tt))))]) (.ret))))))⟩
def c_laws_eqSeen : Fun := ⟨35, [], fun ts K => as2 ts fun t0 t1 => arG pSeenT t0 fun a => arG pSeenT t1 fun b => K (tB (decide (a = b))) []⟩
theorem run_laws_eqSeen (a : Seen) (b : Seen) : runK [] (0) [] pf_laws_eqSeen [tG (a.tc []), tG (b.tc [])] fun r o => r = tB (decide (a = b)) ∧ o = [] := by
  obtain ⟨a1, a2, a3, a4⟩ := a
  obtain ⟨b1, b2, b3, b4⟩ := b
  conv => whnf
  repeat' (first | (refine sel_i (fun h => ?_) (fun h => ?_) <;> conv => whnf) | (refine chk_c ?_ ?_ <;> conv => whnf) | (refine And.intro ?_ rfl) | (refine And.intro ?_ ?_ <;> conv => whnf))
  all_goals (simp at *; simp [*])
theorem ok_laws_eqSeen : FunOk Tryz.prog c_laws_eqSeen := funOk (E := []) (envOk_nil) mixd Tryz.func35 (pf := pf_laws_eqSeen) (by kernel_rfl) fun ts K h => by
  obtain ⟨t0, t1, e0, h⟩ := as2_out h
  subst e0
  obtain ⟨a, e1, hq⟩ := arG_out rd_seen h
  clear h
  subst e1
  have h := hq
  clear hq
  obtain ⟨b, e1, hq⟩ := arG_out rd_seen h
  clear h
  subst e1
  have h := hq
  clear hq
  exact ⟨_, _, h, Nat.le_of_ble_eq_true (show Nat.ble 2 Tryz.f35.ntmps = true by kernel_rfl), _, run_laws_eqSeen a b⟩

theorem workE_0 {x : Inst} {pc a b got : Word} (h : (workE x pc a b got).trap = 0) :
    (workE x pc a b got).r = setsI x ∧ (workE x pc a b got).addr = if x.op = 11 then IntKind.i64.wrap (a.n + x.n) else -1 := by
  by_cases h1 : x.op = 11
  · have e : setsI x = -1 := by unfold setsI; rw [h1, if_pos (by decide)]
    rw [e]; unfold workE; rw [if_pos h1, if_pos h1]; exact ⟨rfl, rfl⟩
  rw [if_neg h1]
  by_cases h2 : x.op = 12
  · have e : setsI x = x.r := by unfold setsI; rw [h2, if_neg (by decide)]
    rw [e]; unfold workE at h ⊢; rw [if_neg h1, if_pos h2] at h ⊢
    by_cases h3 : tryW a a.n 4 ≠ 0
    · rw [if_pos h3] at h; exact absurd h h3
    · rw [if_neg h3]; exact ⟨rfl, rfl⟩
  by_cases h3 : x.op = 13
  · have e : setsI x = -1 := by unfold setsI; rw [h3, if_pos (by decide)]
    rw [e]; unfold workE; rw [if_neg h1, if_neg h2, if_pos h3]; exact ⟨rfl, rfl⟩
  by_cases h4 : x.op = 14
  · have e : setsI x = -1 := by unfold setsI; rw [h4, if_pos (by decide)]
    rw [e]; unfold workE at h ⊢; rw [if_neg h1, if_neg h2, if_neg h3, if_pos h4] at h ⊢
    by_cases h5 : tryW a a.n 32 ≠ 0
    · rw [if_pos h5] at h; exact absurd h h5
    · rw [if_neg h5]; exact ⟨rfl, rfl⟩
  by_cases h5 : x.op = 15
  · unfold workE at h; rw [if_neg h1, if_neg h2, if_neg h3, if_neg h4, if_pos h5] at h; cases h
  by_cases h6 : 0 ≤ setsI x
  · rw [workE_pos h1 h2 h3 h4 h5 h6]; exact ⟨rfl, rfl⟩
  · rw [workE_neg h1 h2 h3 h4 h5 h6]; exact ⟨rfl, rfl⟩
theorem workE_t {x : Inst} {pc a b got : Word} (h : ¬ (workE x pc a b got).trap = 0) : (workE x pc a b got).r = -1 ∧ (workE x pc a b got).addr = -1 := by
  unfold workE at h ⊢
  repeat' (first | (exact ⟨rfl, rfl⟩) | (exact absurd rfl h) | split at h)
  all_goals simp_all [trapE]
theorem effE_0 {l : List Inst} {s : State} (h : (effE l s).trap = 0) : (fetchI l s.pc).2 = 0 ∧ (effE l s).r = setsI (fetchI l s.pc).1 ∧
    (effE l s).addr = if (fetchI l s.pc).1.op = 11 then IntKind.i64.wrap ((s.regs.getD (fetchI l s.pc).1.a.toNat (FT.zero .word)).n + (fetchI l s.pc).1.n) else -1 := by
  by_cases h1 : (fetchI l s.pc).2 = 0
  · refine ⟨h1, ?_⟩
    unfold effE at h ⊢
    simp only at h ⊢
    rw [if_neg (by simpa using h1)] at h ⊢
    split at h
    · rename_i h2; exact absurd h h2
    · rename_i h2; rw [if_neg h2]; exact workE_0 h
  · unfold effE at h; simp only at h; rw [if_pos h1] at h; exact absurd h h1
theorem effE_t {l : List Inst} {s : State} (h : ¬ (effE l s).trap = 0) : (effE l s).r = -1 ∧ (effE l s).addr = -1 := by
  unfold effE at h ⊢
  simp only at h ⊢
  split at h
  · rename_i h1; rw [if_pos h1]; exact ⟨rfl, rfl⟩
  · rename_i h1; rw [if_neg h1]
    split at h
    · rename_i h2; rw [if_pos h2]; exact ⟨rfl, rfl⟩
    · rename_i h2; rw [if_neg h2]; exact workE_t h
theorem stepS_tr {l : List Inst} {s : State} (h : stateOk s = true) (h2 : s.trap = 0) : (stepS l s).trap = (effE l s).trap := by
  by_cases h3 : (effE l s).trap = 0
  · rw [stepS_0 h h2 h3, h3]; exact h2
  · rw [stepS_e h h2 h3]

def pf_impl_SeenOf : PF := ⟨[.c 4 true 4, .t 5], .seq (.reg [.s (.box 3 (.t 1)), .s (.alloc 4 [.int .i64 0, .int .i64 0, .int .i64 0, .int .i64 0]), .s (.mv 5 (.k (.v (.c .ff))))]) (.seq (.seq (.reg [.s (.load 7 true 10 (.t 3)), .s (.call (some 8) 58 [(.t 7)]), .s (.bnot 9 (.t 8)), .s (.mv 10 (.t 9)), .g 10 false (some 11) (.fa 11 (.t 3) 9), .g 10 false (some 12) (.load 12 false 1 (.t 11)), .g 10 false (some 13) (.bin 13 .neq (.t 12) (.k (.v (.c (.int .i64 0))))), .s (.pick 14 (.t 10) (.k (.v (.c .tt))) (.t 13))]) (.cond (.t 14) (.seq (.reg [.s (.build 15 [.int .i64 0, .int .i64 0, .int .i64 0, .int .i64 0] []), .s (.store 4 (.t 4) (.t 15)), .s (.mv 5 (.k (.v (.c .ff))))]) (.ret)) (.skip))) (.seq (.reg [.s (.mv 16 (.t 0)), .s (.load 17 true 10 (.t 3)), .s (.call (some 18) 59 [(.t 16), (.t 17)]), .s (.alloc 6 [.int .i64 0, .int .i64 0, .int .i64 0, .ff, .int .i64 0, .int .i64 0, .int .i64 0, .int .i64 0, .int .i64 0, .ff, .int .i64 0, .int .i64 0, .int .i64 0, .int .i64 0, .int .i64 0, .int .i64 0, .ff, .int .i64 0, .int .i64 0, .int .i64 0, .int .i64 0, .int .i64 0]), .s (.store 22 (.t 6) (.t 18))]) (.seq (.reg [.s (.fa 19 (.t 3) 1), .s (.fa 20 (.t 19) 0), .s (.load 21 false 1 (.t 20)), .s (.fa 22 (.t 6) 1), .s (.load 23 false 1 (.t 22)), .s (.fa 24 (.t 6) 14), .s (.load 25 false 1 (.t 24)), .s (.fa 26 (.t 6) 0), .s (.load 27 false 1 (.t 26)), .s (.build 28 [.int .i64 0, .int .i64 0, .int .i64 0, .int .i64 0] [(0, 1, (.t 21)), (1, 1, (.t 23)), (2, 1, (.t 25)), (3, 1, (.t 27))]), .s (.store 4 (.t 4) (.t 28)), .s (.mv 5 (.k (.v (.c .tt))))]) (.ret))))⟩
def c_impl_SeenOf : Fun := ⟨33, [], fun ts K => as2 ts fun t0 t1 => arC (pL .inst) t0 fun l => arG pStateT t1 fun s => chk (l.length ≤ 2147483647 ∧ LState s 2147483647) (K (.tup [.g ((seenOf l s).1.tc []), T1.c (.bool (seenOf l s).2)]) [])⟩
theorem run_impl_SeenOf (l : List (FT.Ty .inst)) (s : State) (hpre : l.length ≤ 2147483647 ∧ LState s 2147483647) : runK [c_impl_StateOk, c_impl_effectOf] (0) [] pf_impl_SeenOf [tL false .inst l, tG (s.tc false [])] fun r o => r = .tup [.g ((seenOf l s).1.tc []), T1.c (.bool (seenOf l s).2)] ∧ o = [] := by
  obtain ⟨l1, l2⟩ := hpre
  conv => whnf
  repeat' (first | (refine sel_i (fun h => ?_) (fun h => ?_) <;> conv => whnf) | (refine chk_c ?_ ?_ <;> conv => whnf) | (refine And.intro ?_ rfl) | (refine And.intro ?_ ?_ <;> conv => whnf))
  all_goals (try simp only [etaKey, etaWord, etaInst, etaEff, etaMemory, etaState, bne_iff_ne, ne_eq, bne_eq_false_iff_eq, beq_iff_eq, beq_eq_false_iff_ne, Bool.not_eq_true', Bool.not_eq_false', decide_eq_true_eq, decide_eq_false_iff_not] at *)
  all_goals first
    | (refine ⟨?_⟩; assumption)
    | (refine ⟨?_⟩; exact ⟨l1, stateOk_len (by assumption)⟩)
    | (rw [seenOf_no (by assumption)]; rfl)
    | (rw [seenOf_t (by assumption)]; rfl)
    | (rw [seenOf_0 (by assumption) (by assumption)]; rfl)
    | trace_state
theorem ok_impl_SeenOf : FunOk Tryz.prog c_impl_SeenOf := funOk (E := [c_impl_StateOk, c_impl_effectOf]) (envOk_cons ok_impl_StateOk (envOk_cons ok_impl_effectOf (envOk_nil))) mixd Tryz.func33 (pf := pf_impl_SeenOf) (by kernel_rfl) fun ts K h => by
  obtain ⟨t0, t1, e0, h⟩ := as2_out h
  subst e0
  obtain ⟨l, e1, hq⟩ := arC_out (rd_l .inst) h
  clear h
  subst e1
  have h := hq
  clear hq
  obtain ⟨s, e1, hq⟩ := arG_out rd_state h
  clear h
  subst e1
  have h := hq
  clear hq
  obtain ⟨hpre, h⟩ := chk_o h
  exact ⟨_, _, h, Nat.le_of_ble_eq_true (show Nat.ble 2 Tryz.f33.ntmps = true by kernel_rfl), _, run_impl_SeenOf l s hpre⟩

def pf_spec_SeenOf : PF := ⟨[.c 4 true 4, .t 5], .seq (.reg [.s (.box 3 (.t 1)), .s (.alloc 4 [.int .i64 0, .int .i64 0, .int .i64 0, .int .i64 0]), .s (.mv 5 (.k (.v (.c .ff))))]) (.seq (.seq (.reg [.s (.load 10 true 10 (.t 3)), .s (.call (some 11) 49 [(.t 10)]), .s (.bnot 12 (.t 11)), .s (.mv 13 (.t 12)), .g 13 false (some 14) (.fa 14 (.t 3) 9), .g 13 false (some 15) (.load 15 false 1 (.t 14)), .g 13 false (some 16) (.bin 16 .neq (.t 15) (.k (.v (.c (.int .i64 0))))), .s (.pick 17 (.t 13) (.k (.v (.c .tt))) (.t 16))]) (.cond (.t 17) (.seq (.reg [.s (.build 18 [.int .i64 0, .int .i64 0, .int .i64 0, .int .i64 0] []), .s (.store 4 (.t 4) (.t 18)), .s (.mv 5 (.k (.v (.c .ff))))]) (.ret)) (.skip))) (.seq (.reg [.s (.fa 19 (.t 3) 1), .s (.fa 20 (.t 19) 0), .s (.load 21 false 1 (.t 20)), .s (.build 22 [.int .i64 0, .int .i64 0, .int .i64 0, .int .i64 0] [(0, 1, (.t 21)), (1, 1, (.k (.v (.c (.int .i64 (-1)))))), (2, 1, (.k (.v (.c (.int .i64 (-1))))))]), .s (.alloc 6 [.int .i64 0, .int .i64 0, .int .i64 0, .int .i64 0]), .s (.store 4 (.t 6) (.t 22))]) (.seq (.reg [.s (.mv 23 (.t 0)), .s (.load 24 true 10 (.t 3)), .s (.call (some 25) 28 [(.t 23), (.t 24)]), .s (.alloc 7 [.nils .word, .int .i64 0, .ff, .int .i64 0, .int .i64 0, .int .i64 0, .int .i64 0, .nils .word, .nils .bool, .int .i64 0]), .s (.store 10 (.t 7) (.t 25))]) (.seq (.reg [.s (.fa 26 (.t 7) 9), .s (.load 27 false 1 (.t 26)), .s (.fa 28 (.t 6) 3), .s (.store 1 (.t 28) (.t 27))]) (.seq (.reg [.s (.mv 30 (.t 0)), .s (.fa 31 (.t 3) 1), .s (.load 32 true 6 (.t 31)), .s (.call (some 33) 50 [(.t 30), (.t 32)]), .s (.mv 29 (.t 33)), .s (.ext 34 (.t 29) 0), .s (.ext 35 (.t 29) 1), .s (.alloc 8 [.int .i64 0, .int .i64 0, .int .i64 0, .int .i64 0, .int .i64 0]), .s (.store 5 (.t 8) (.t 34)), .s (.mv 9 (.t 35))]) (.seq (.seq (.reg [.s (.fa 36 (.t 7) 9), .s (.load 37 false 1 (.t 36)), .s (.bin 38 .eql (.t 37) (.k (.v (.c (.int .i64 0)))))]) (.cond (.t 38) (.seq (.reg [.s (.load 39 true 5 (.t 8)), .s (.call (some 40) 51 [(.t 39)]), .s (.fa 41 (.t 6) 1), .s (.store 1 (.t 41) (.t 40))]) (.seq (.reg [.s (.fa 42 (.t 8) 0), .s (.load 43 false 1 (.t 42)), .s (.bin 44 .eql (.t 43) (.k (.v (.c (.int .i64 11)))))]) (.cond (.t 44) (.rgd [.s (.fa 45 (.t 3) 0), .s (.load 46 false 1 (.t 45)), .s (.fa 47 (.t 8) 2), .s (.load 48 false 1 (.t 47)), .s (.ia 49 .word (.t 46) (.t 48)), .s (.fa 50 (.t 49) 0), .s (.load 51 false 1 (.t 50)), .s (.fa 52 (.t 8) 4), .s (.load 53 false 1 (.t 52)), .s (.bin 54 .add (.t 51) (.t 53)), .s (.fa 55 (.t 6) 2), .s (.store 1 (.t 55) (.t 54))] (.tk 0 (.tk 1 (.tk 2 (.tk 3 (.tk 4 (.tk 5 (.tk 6 (.tk 7 (.tk 8 (.tk 9 (.tk 10 (.one 11 true (.done none)))))))))))))) (.skip)))) (.skip))) (.seq (.reg [.s (.load 56 true 4 (.t 6)), .s (.store 4 (.t 4) (.t 56)), .s (.mv 5 (.k (.v (.c .tt))))]) (.ret))))))))⟩
def c_spec_SeenOf : Fun := ⟨27, [], fun ts K => as2 ts fun t0 t1 => arC (pL .inst) t0 fun l => arG pStateT t1 fun s => chk (l.length ≤ 2147483647 ∧ LState s 2147483647) (K (.tup [.g ((seenOf l s).1.tc []), T1.c (.bool (seenOf l s).2)]) [])⟩
theorem run_spec_SeenOf (l : List (FT.Ty .inst)) (s : State) (hpre : l.length ≤ 2147483647 ∧ LState s 2147483647) : runK [c_spec_Step, c_spec_StateOk, c_spec_Fetch, c_spec_Sets] (0) [] pf_spec_SeenOf [tL false .inst l, tG (s.tc false [])] fun r o => r = .tup [.g ((seenOf l s).1.tc []), T1.c (.bool (seenOf l s).2)] ∧ o = [] := by
  obtain ⟨l1, l2⟩ := hpre
  conv => whnf
  repeat' (first | (refine sel_i (fun h => ?_) (fun h => ?_) <;> conv => whnf) | (refine chk_c ?_ ?_ <;> conv => whnf) | (refine And.intro ?_ rfl) | (refine And.intro ?_ ?_ <;> conv => whnf))
  all_goals (try simp only [etaKey, etaWord, etaInst, etaEff, etaMemory, etaState, bne_iff_ne, ne_eq, bne_eq_false_iff_eq, beq_iff_eq, beq_eq_false_iff_ne, Bool.not_eq_true', Bool.not_eq_false', decide_eq_true_eq, decide_eq_false_iff_not] at *)
  all_goals first
    | (refine ⟨?_⟩; assumption)
    | (rw [seenOf_no (by assumption)]; rfl)
    | (rw [seenOf_t (by assumption)]; rfl)
    | (refine ⟨?_⟩; exact ⟨l1, l2⟩)
    | (refine ⟨?_⟩; rw [stepS_tr (by assumption) (by assumption)] at *; have hx := fetchI_in (effE_0 (by assumption)).1; have hl := (stateOk_len (by assumption)).1; omega)
    | (rw [stepS_tr (by assumption) (by assumption)] at *; rw [seenOf_0 (by assumption) (by assumption), (effE_0 (by assumption)).2.1, (effE_0 (by assumption)).2.2]; simp only [*, if_true, if_false]; rfl)
    | (rw [stepS_tr (by assumption) (by assumption)] at *; rw [seenOf_0 (by assumption) (by assumption), (effE_t (by assumption)).1, (effE_t (by assumption)).2]; rfl)
    | trace_state
theorem ok_spec_SeenOf : FunOk Tryz.prog c_spec_SeenOf := funOk (E := [c_spec_Step, c_spec_StateOk, c_spec_Fetch, c_spec_Sets]) (envOk_cons ok_spec_Step (envOk_cons ok_spec_StateOk (envOk_cons ok_spec_Fetch (envOk_cons ok_spec_Sets (envOk_nil))))) mixd Tryz.func27 (pf := pf_spec_SeenOf) (by kernel_rfl) fun ts K h => by
  obtain ⟨t0, t1, e0, h⟩ := as2_out h
  subst e0
  obtain ⟨l, e1, hq⟩ := arC_out (rd_l .inst) h
  clear h
  subst e1
  have h := hq
  clear hq
  obtain ⟨s, e1, hq⟩ := arG_out rd_state h
  clear h
  subst e1
  have h := hq
  clear hq
  obtain ⟨hpre, h⟩ := chk_o h
  exact ⟨_, _, h, Nat.le_of_ble_eq_true (show Nat.ble 2 Tryz.f27.ntmps = true by kernel_rfl), _, run_spec_SeenOf l s hpre⟩

def setSide (t : Two) (s : State) (who : Int) : Two :=
  if who = 1 then ⟨s.mem, t.a, ⟨s.regs, s.pc, s.trap⟩⟩ else ⟨s.mem, ⟨s.regs, s.pc, s.trap⟩, t.b⟩
def twoStep (a b : List Inst) (t : Two) (who : Int) : Two × Bool :=
  if twoOk t = false ∨ inR who 0 1 = false then (t, false) else (setSide t (stepS (if who = 1 then b else a) (sideState t who)) who, true)
theorem twoStep_no {a b : List Inst} {t : Two} {who : Int} (h : twoOk t = false) : twoStep a b t who = (t, false) := if_pos (.inl h)
theorem twoStep_w {a b : List Inst} {t : Two} {who : Int} (h : inR who 0 1 = false) : twoStep a b t who = (t, false) := if_pos (.inr h)
theorem twoStep_ok {a b : List Inst} {t : Two} {who : Int} (h : twoOk t = true) (h2 : inR who 0 1 = true) : twoStep a b t who = (setSide t (stepS (if who = 1 then b else a) (sideState t who)) who, true) :=
  if_neg (by rw [h, h2]; simp)
theorem twoStep_1 {a b : List Inst} {t : Two} {who : Int} (h : twoOk t = true) (h2 : inR who 0 1 = true) (h3 : who = 1) : twoStep a b t who = (⟨(stepS b (sideState t who)).mem, t.a, ⟨(stepS b (sideState t who)).regs, (stepS b (sideState t who)).pc, (stepS b (sideState t who)).trap⟩⟩, true) := by
  rw [twoStep_ok h h2, if_pos h3]; unfold setSide; rw [if_pos h3]
theorem twoStep_0 {a b : List Inst} {t : Two} {who : Int} (h : twoOk t = true) (h2 : inR who 0 1 = true) (h3 : ¬ who = 1) : twoStep a b t who = (⟨(stepS a (sideState t who)).mem, ⟨(stepS a (sideState t who)).regs, (stepS a (sideState t who)).pc, (stepS a (sideState t who)).trap⟩, t.b⟩, true) := by
  rw [twoStep_ok h h2, if_neg h3]; unfold setSide; rw [if_neg h3]

theorem setSide_len {t : Two} {s : State} {who : Int} {n : Nat} (h : LTwo t n) (hs : LState s n) : LTwo (setSide t s who) n := by
  unfold setSide; split
  · exact ⟨hs.2, h.2.1, hs.1⟩
  · exact ⟨hs.2, hs.1, h.2.2⟩
theorem putE_len {s : State} {e : Eff} {n : Nat} (h : LState s n) : LState (putE s e) n := by
  obtain ⟨h1, h2, h3⟩ := h
  unfold putE
  refine ⟨?_, ?_, ?_⟩
  · dsimp only; split
    · rw [List.length_set]; exact h1
    · exact h1
  · dsimp only; split
    · rw [List.length_set]; exact h2
    · exact h2
  · dsimp only; split
    · rw [List.length_set]; exact h3
    · exact h3
theorem stepS_len {l : List Inst} {s : State} {n : Nat} (h : LState s n) : LState (stepS l s) n := by
  unfold stepS
  split
  · exact ⟨Nat.zero_le _, Nat.zero_le _, Nat.zero_le _⟩
  · split
    · exact h
    · split
      · exact h
      · exact putE_len h
theorem twoStep_len {a b : List Inst} {t : Two} {who : Int} {n : Nat} (h : LTwo t n) : LTwo (twoStep a b t who).1 n := by
  unfold twoStep
  split
  · exact h
  · exact setSide_len h (stepS_len (sideState_len h))
theorem etaMTwo (m : Two) (k : Int) : (⟨(markTwo m k).mem, ⟨(markTwo m k).a.regs, m.a.pc, m.a.trap⟩, ⟨(markTwo m k).b.regs, m.b.pc, m.b.trap⟩⟩ : Two) = markTwo m k := rfl

def twoRunGo (a b : List Inst) : List Int → Two → Two
  | [], t => t
  | w :: ws, t => twoRunGo a b ws (twoStep a b t w).1
def twoRun (a b : List Inst) (t : Two) (o : List Int) : Two := if 600 < o.length then t else twoRunGo a b o t
theorem twoRunGo_len {a b : List Inst} {n : Nat} : ∀ {o : List Int} {t : Two}, LTwo t n → LTwo (twoRunGo a b o t) n
  | [], _, h => h
  | _ :: ws, _, h => twoRunGo_len (o := ws) (twoStep_len h)
theorem twoRun_len {a b : List Inst} {o : List Int} {t : Two} {n : Nat} (h : LTwo t n) : LTwo (twoRun a b t o) n := by
  unfold twoRun; split
  · exact h
  · exact twoRunGo_len h
theorem twoRunGo_step {a b : List Inst} {o : List Int} {t : Two} {i : Nat} (h : i < o.length) : twoRunGo a b (o.drop i) t = twoRunGo a b (o.drop (i + 1)) (twoStep a b t (o.getD i 0)).1 := by
  rw [List.drop_eq_getElem_cons h, List.getD_eq_getElem?_getD, List.getElem?_eq_getElem h]; rfl
theorem twoRun_end {a b : List Inst} {o : List Int} {t v : Two} {i : Nat} (h : ¬ (i : Int) < o.length) (hx : twoRunGo a b (o.drop i) v = twoRun a b t o) : twoRun a b t o = v := by
  rw [← hx, List.drop_eq_nil_of_le (by omega)]; rfl
theorem twoRun_big {a b : List Inst} {o : List Int} {t : Two} (h : 600 < o.length) : twoRun a b t o = t := if_pos h

theorem digits_rel : ∀ (n t : Nat) (acc : Array Value) (zs : List Int), acc.toList = zs.map (Value.int .u8) → ∃ ys, (Extern.BytealgMakeNoZero.digits n t acc).toList = (zs ++ ys).map (Value.int .u8) ∧ ys.length = n
  | 0, t, acc, zs, h => ⟨[], by rw [List.append_nil]; exact h, rfl⟩
  | n + 1, t, acc, zs, h => by
    obtain ⟨ys, h1, h2⟩ := digits_rel n (t / 256) (acc.push (.int .u8 (Int.ofNat (t % 256)))) (zs ++ [Int.ofNat (t % 256)]) (by simp [h])
    exact ⟨Int.ofNat (t % 256) :: ys, by rw [Extern.BytealgMakeNoZero.digits, h1]; simp, by simp [h2]⟩
theorem run_mnz {P : Program} (w : World) (ps : Array TypeId) (t e : TypeId) (ht : P.underlying t = some (.slice e)) (n : Nat) (hn : n ≤ 281474976710656) :
    ∃ (cs : Array Value) (zs : List Int), (Extern.BytealgMakeNoZero.makeNoZero ps #[t] #[.int .i64 n]).run P w = .ok (.slice (some ⟨w.heap.size, 0, none⟩) n cs.size) (w.drew.drew.alloc (.cells cs e)) ∧ n ≤ cs.size ∧ cs.toList = zs.map (Value.int .u8) := by
  obtain ⟨ys, h1, h2⟩ := digits_rel (grownCap w n 0 e) ((Question.extern "internal/bytealg.MakeNoZero.bytes" 0).cut (w.tape (w.drawn + 1) (.extern "internal/bytealg.MakeNoZero.bytes" 0))) #[] [] rfl
  have hsz := Lib.size_digits (grownCap w n 0 e) ((Question.extern "internal/bytealg.MakeNoZero.bytes" 0).cut (w.tape (w.drawn + 1) (.extern "internal/bytealg.MakeNoZero.bytes" 0))) #[]
  refine ⟨Extern.BytealgMakeNoZero.digits (grownCap w n 0 e) ((Question.extern "internal/bytealg.MakeNoZero.bytes" 0).cut (w.tape (w.drawn + 1) (.extern "internal/bytealg.MakeNoZero.bytes" 0))) #[], ys, ?_, ?_, by simpa using h1⟩
  · have k1 : ¬ (n : Int) < 0 := by omega
    have k2 : ¬ (281474976710656 : Int) < (n : Int) := by omega
    have hdef : Extern.BytealgMakeNoZero.makeNoZero ps #[t] #[.int .i64 n] =
      (do
        let .slice elem ← underlying t | stuck "bytealg.MakeNoZero: slice type expected"
        if (n : Int) < 0 || (n : Int) > 2 ^ 48 then runtimePanic (.error "makeslice: len out of range")
        let cap ← choose (.appendCap (n : Int).toNat 0 elem)
        askRoom cap
        let bytes ← choose (.extern "internal/bytealg.MakeNoZero.bytes" 0)
        let a ← newRow elem (Extern.BytealgMakeNoZero.digits cap bytes #[])
        pure (.slice (some a) (n : Int).toNat cap)) := rfl
    rw [hdef]
    simp [run_underlying ht, k1, k2, Question.forced, newRow, Lib.size_digits, grownCap]
  · rw [hsz]; simpa using grownCap_ge w n 0 e
def mnzFun (f : Nat) : Fun := ⟨f, [], fun ts K => as1 ts fun t0 => arC (pI .i64) t0 fun n => chk (0 ≤ n ∧ n ≤ 1000000) (∀ zs : List Int, zs.length = n.toNat → K (tL true (.int .u8) zs) [])⟩
theorem mnz_ok {P : Program} {f : Nat} {fn : Func} {ps : Array TypeId} {t e : TypeId} (hf : P.funcs[f]? = some fn) (hname : (fn.name == "runtime.NumGoroutine") = false)
    (hb : fn.body.isNone = true) (hn : Extern.findNext fn = none) (he : Extern.find fn = some (Extern.BytealgMakeNoZero.makeNoZero ps #[t])) (ht : P.underlying t = some (.slice e)) : FunOk P (mnzFun f) := by
  intro ts K h
  obtain ⟨t0, e0, h⟩ := as1_out h
  subst e0
  obtain ⟨n, e1, h⟩ := arC_out (rd_int .i64) h
  subst e1
  obtain ⟨⟨h0, h1⟩, h⟩ := chk_o h
  intro w vs F G hrep _ _ _
  obtain ⟨v, vs', hvs⟩ : ∃ v vs', vs = v :: vs' := by cases vs with
    | nil => exact hrep.elim
    | cons v vs' => exact ⟨v, vs', rfl⟩
  subst hvs
  obtain ⟨F1, F2, G1, G2, hv, hr, rfl, rfl⟩ := hrep
  have hv' : v = .int .i64 n ∧ F1 = [] ∧ G1 = [] := hv
  obtain ⟨rfl, rfl, rfl⟩ := hv'
  cases vs' with
  | cons _ _ => exact hr.elim
  | nil =>
  obtain ⟨rfl, rfl⟩ := hr
  obtain ⟨m, rfl⟩ : ∃ m : Nat, n = m := ⟨n.toNat, by omega⟩
  obtain ⟨cs, zs, hrun, hle, hcs⟩ := run_mnz (P := P) w ps t e ht m (by omega)
  have hzl : zs.length = cs.size := by rw [← Array.length_toList, hcs]; simp
  have g := Grown.alloc w.drew.drew cs e
  refine .inr ⟨_, _, (run_callFunc_extern hf hname hb hn he #[.int .i64 (m : Int)] w).trans (by rw [hrun]; rfl), tL true (.int .u8) (zs.take m), [], h _ (by simp; omega), ?_⟩
  have hsz : w.drew.drew.heap.size = w.heap.size := rfl
  have hcell : CellsR none0 (flats (.int .u8) (zs.take m)) (cs.toList.take m) := by
    rw [hcs, ← List.map_take]
    generalize zs.take m = ys
    induction ys with
    | nil => trivial
    | cons y ys ih => exact ⟨rfl, ih⟩
  have hlen : (zs.take m).length = m := by simp; omega
  have hB : BlkR (w.drew.drew.alloc (.cells cs e)) none0 ⟨w.heap.size, 0, cs.size, m⟩ (.flat true (.int .u8) none (zs.take m)) :=
    ⟨hlen.symm, hle, (fun _ e => by cases e), ⟨_, fun j v hj => by
      have hj2 : cs.toList[j]? = some v := by rw [List.getElem?_take] at hj; split at hj <;> first | exact hj | cases hj
      have := g.cell j
      rw [Nat.zero_add]
      exact this.trans (by simpa using hj2), hcell⟩, fun _ => ⟨fun j hj => by
        have hj' : j < cs.size := by simpa [FT.sz] using hj
        rw [Nat.zero_add]
        exact ⟨by rw [show (w.drew.drew.alloc (.cells cs e)).cell? ⟨w.heap.size, j, none⟩ = cs[j]? from g.cell j]; simp [hj'], g.frz j hj'⟩, fun _ => g.free.le (by simp [FT.sz])⟩⟩
  refine ⟨.slice (some ⟨w.heap.size, 0, none⟩) m cs.size, (Blk.flat true (.int .u8) none (zs.take m)).foot ⟨w.heap.size, 0, cs.size, m⟩, [], [], [], rfl, ⟨⟨w.heap.size, 0, cs.size, m⟩, some ⟨w.heap.size, 0, none⟩, ⟨rfl, (fun e => by cases e), fun _ => rfl⟩, hB, rfl, rfl⟩, ⟨rfl, rfl⟩, ?_, fun x hx => ?_, (fun x hx => by cases hx), ?_⟩
  · simp only [Blk.foot, List.nil_append]; split <;> simp
  · simp only [Blk.foot, List.nil_append] at hx
    split at hx
    · simp only [List.mem_singleton] at hx
      subst hx
      exact ⟨by have := g.size; rw [this]; show w.heap.size < w.heap.size + 1; omega, .inr (Nat.le_refl _)⟩
    · cases hx
  · exact g.fr

def c_bytealg_MakeNoZero : Fun := mnzFun 121
theorem ok_bytealg_MakeNoZero : FunOk Tryz.prog c_bytealg_MakeNoZero := mnz_ok (ps := #[3]) (t := 55) (e := 5) Tryz.func121 (by kernel_rfl) (by kernel_rfl) (by kernel_rfl) (by kernel_rfl) (by kernel_rfl)

theorem list9 {zs : List Int} (h : zs.length = 9) : ∃ a b c d e p q r s, zs = [a, b, c, d, e, p, q, r, s] := by
  match zs, h with
  | [a, b, c, d, e, p, q, r, s], _ => exact ⟨a, b, c, d, e, p, q, r, s, rfl⟩
def five (xss : List (List Int)) (k : Int → Int → Int → Int → Int → Int → Int → Int → Int → Prop) : Prop := match xss with
  | [[a, b], [c], [d, e], [p, q], [r, s]] => k a b c d e p q r s
  | _ => False
theorem five_out {xss : List (List Int)} {k : Int → Int → Int → Int → Int → Int → Int → Int → Int → Prop} (h : five xss k) : ∃ a b c d e p q r s, xss = [[a, b], [c], [d, e], [p, q], [r, s]] ∧ k a b c d e p q r s := by
  unfold five at h
  split at h
  · exact ⟨_, _, _, _, _, _, _, _, _, rfl, h⟩
  · exact h.elim
def noneL (xs : List Int) (k : Prop) : Prop := match xs with | [] => k | _ :: _ => False
theorem noneL_out {xs : List Int} {k : Prop} (h : noneL xs k) : xs = [] ∧ k := by
  cases xs with
  | nil => exact ⟨rfl, h⟩
  | cons _ _ => exact h.elim

def lb_bytes_Join_0 : PC := .seq (.reg [.s (.bin 45 .lss (.t 44) (.t 43))]) (.seq (.cond (.t 45) (.skip) (.exit 0)) (.seq (.blk 1 (.seq (.reg [.s (.iar 46 (.t 42) (.t 44)), .s (.load 47 false 1 (.t 46)), .s (.mv 7 (.t 47))]) (.seq (.seq (.reg [.s (.mv 48 (.t 7)), .s (.len 49 false (.t 48)), .s (.mv 50 (.t 5)), .s (.bin 51 .sub (.k (.v (.c (.int .i64 9223372036854775807)))) (.t 50)), .s (.bin 52 .gtr (.t 49) (.t 51))]) (.cond (.t 52) (.reg [.s (.no), .s (.no)]) (.skip))) (.reg [.s (.mv 54 (.t 5)), .s (.mv 55 (.t 7)), .s (.len 56 false (.t 55)), .s (.bin 57 .add (.t 54) (.t 56)), .s (.mv 5 (.t 57))])))) (.reg [.s (.bin 58 .add (.t 44) (.k (.v (.c (.int .i64 1))))), .s (.mv 44 (.t 58))])))
def lb_bytes_Join_1 : PC := .seq (.reg [.s (.bin 73 .lss (.t 72) (.t 71))]) (.seq (.cond (.t 73) (.skip) (.exit 2)) (.seq (.blk 3 (.seq (.reg [.s (.iar 74 (.t 70) (.t 72)), .s (.load 75 false 1 (.t 74)), .s (.mv 11 (.t 75))]) (.seq (.reg [.s (.mv 76 (.t 9)), .s (.mv 77 (.t 8)), .s (.mv 78 (.t 9)), .s (.slc 79 (.int .u8) (.t 77) (some (.t 78)) none), .s (.mv 80 (.t 1)), .s (.cpy (some 81) (.int .u8) (.t 79) (.t 80)), .s (.bin 82 .add (.t 76) (.t 81)), .s (.mv 9 (.t 82))]) (.reg [.s (.mv 83 (.t 9)), .s (.mv 84 (.t 8)), .s (.mv 85 (.t 9)), .s (.slc 86 (.int .u8) (.t 84) (some (.t 85)) none), .s (.mv 87 (.t 11)), .s (.cpy (some 88) (.int .u8) (.t 86) (.t 87)), .s (.bin 89 .add (.t 83) (.t 88)), .s (.mv 9 (.t 89))])))) (.reg [.s (.bin 90 .add (.t 72) (.k (.v (.c (.int .i64 1))))), .s (.mv 72 (.t 90))])))
def pf_bytes_Join : PF := ⟨[.t 4], .seq (.reg [.s (.mv 4 (.k (.v (.c (.nils (.int .u8))))))]) (.seq (.seq (.reg [.s (.mv 12 (.t 0)), .s (.lenr 13 (.t 12)), .s (.bin 14 .eql (.t 13) (.k (.v (.c (.int .i64 0)))))]) (.cond (.t 14) (.seq (.reg [.s (.bs 15 (.int .u8) []), .s (.mv 4 (.t 15))]) (.ret)) (.skip))) (.seq (.seq (.reg [.s (.mv 16 (.t 0)), .s (.lenr 17 (.t 16)), .s (.bin 18 .eql (.t 17) (.k (.v (.c (.int .i64 1)))))]) (.cond (.t 18) (.seq (.reg [.s (.mv 19 (.t 0)), .s (.iar 20 (.t 19) (.k (.v (.c (.int .i64 0))))), .s (.load 21 false 1 (.t 20)), .s (.app 22 (.int .u8) (.k (.v (.c (.nils (.int .u8))))) (.t 21)), .s (.mv 4 (.t 22))]) (.ret)) (.skip))) (.seq (.reg [.s (.mv 5 (.k (.v (.c (.int .i64 0)))))]) (.seq (.seq (.reg [.s (.mv 23 (.t 1)), .s (.len 24 false (.t 23)), .s (.bin 25 .gtr (.t 24) (.k (.v (.c (.int .i64 0)))))]) (.cond (.t 25) (.seq (.seq (.reg [.s (.mv 26 (.t 1)), .s (.len 27 false (.t 26)), .s (.mv 28 (.t 0)), .s (.lenr 29 (.t 28)), .s (.bin 30 .sub (.t 29) (.k (.v (.c (.int .i64 1))))), .s (.bin 31 .quo (.k (.v (.c (.int .i64 9223372036854775807)))) (.t 30)), .s (.bin 32 .geq (.t 27) (.t 31))]) (.cond (.t 32) (.reg [.s (.no), .s (.no)]) (.skip))) (.reg [.s (.mv 34 (.t 5)), .s (.mv 35 (.t 1)), .s (.len 36 false (.t 35)), .s (.mv 37 (.t 0)), .s (.lenr 38 (.t 37)), .s (.bin 39 .sub (.t 38) (.k (.v (.c (.int .i64 1))))), .s (.bin 40 .mul (.t 36) (.t 39)), .s (.bin 41 .add (.t 34) (.t 40)), .s (.mv 5 (.t 41))])) (.skip))) (.seq (.seq (.reg [.s (.mv 42 (.t 0)), .s (.lenr 43 (.t 42)), .s (.mv 44 (.k (.v (.c (.int .i64 0)))))]) (.blk 0 (.loop [0, 1, 5, 42, 43, 44] lb_bytes_Join_0))) (.seq (.reg [.s (.mv 59 (.t 5)), .s (.call (some 60) 121 [(.t 59)]), .s (.mv 61 (.t 5)), .s (.mv 62 (.t 5)), .s (.slc3 63 (.int .u8) (.t 60) (.t 61) (.t 62)), .s (.mv 8 (.t 63))]) (.seq (.reg [.s (.mv 64 (.t 8)), .s (.mv 65 (.t 0)), .s (.iar 66 (.t 65) (.k (.v (.c (.int .i64 0))))), .s (.load 67 false 1 (.t 66)), .s (.cpy (some 68) (.int .u8) (.t 64) (.t 67)), .s (.mv 9 (.t 68))]) (.seq (.seq (.reg [.s (.mv 69 (.t 0)), .s (.slr 70 (.t 69) (.k (.v (.c (.int .i64 1))))), .s (.lenr 71 (.t 70)), .s (.mv 72 (.k (.v (.c (.int .i64 0)))))]) (.blk 2 (.loop [1, 8, 9, 70, 71, 72] lb_bytes_Join_1))) (.seq (.reg [.s (.mv 91 (.t 8)), .s (.mv 4 (.t 91))]) (.ret))))))))))⟩
def c_bytes_Join : Fun := ⟨96, [], fun ts K => as2 ts fun t0 t1 => arRB t0 fun xss => arC (pL (.int .u8)) t1 fun sep => noneL sep (five xss fun a b c d e p q r s => K (tL true (.int .u8) [a, b, c, d, e, p, q, r, s]) [])⟩
set_option maxHeartbeats 4000000 in
theorem run_bytes_Join (a b c d e p q r s : Int) : runK [c_bytealg_MakeNoZero] 10 [] pf_bytes_Join [.rows 5 [tl false (.int .u8) [a, b], tl false (.int .u8) [c], tl false (.int .u8) [d, e], tl false (.int .u8) [p, q], tl false (.int .u8) [r, s]], tL false (.int .u8) []] fun x o => x = tL true (.int .u8) [a, b, c, d, e, p, q, r, s] ∧ o = [] := by
  conv => whnf
  repeat' (first | (refine sel_i (fun h => ?_) (fun h => ?_) <;> first | (exfalso; revert h; decide) | conv => whnf) | (refine chk_c ?_ ?_ <;> conv => whnf) | (refine iter_s ?_; conv => whnf) | (refine And.intro ?_ rfl) | (refine And.intro ?_ ?_ <;> conv => whnf))
  all_goals (try first
    | (refine ⟨?_⟩; decide)
    | (refine ⟨?_⟩; simp only [List.length_cons, List.length_nil]; decide)
    | (refine ⟨?_⟩; simp only [List.length_cons, List.length_nil, IntKind.wrap_i64]; omega)
    | (exfalso; simp only [List.length_cons, List.length_nil, decide_eq_true_eq, decide_eq_false_iff_not, gt_iff_lt, IntKind.wrap_i64] at h; omega))
  intro zs hz
  have hz : zs.length = 9 := by
    simp only [List.length_cons, List.length_nil] at hz
    exact hz.trans (by decide)
  obtain ⟨z0, z1, z2, z3, z4, z5, z6, z7, z8, rfl⟩ := list9 hz
  clear hz
  conv => whnf
  repeat' (first | (refine sel_i (fun h => ?_) (fun h => ?_) <;> conv => whnf) | (refine chk_c ?_ ?_ <;> conv => whnf) | (refine And.intro ?_ rfl) | (refine And.intro ?_ ?_ <;> conv => whnf))
  all_goals (try first
    | (refine ⟨?_⟩; decide)
    | (refine ⟨?_⟩; simp only [List.length_cons, List.length_nil]; decide)
    | (refine ⟨?_⟩; simp only [List.length_cons, List.length_nil, IntKind.wrap_i64]; omega)
    | (exfalso; simp only [List.length_cons, List.length_nil, decide_eq_true_eq, decide_eq_false_iff_not, gt_iff_lt, IntKind.wrap_i64] at h; omega))
  refine loop (α := Nat) (fun j => ⟨[(1, .v (.c (.sl false (.int .u8) 0))), (8, .v (.c (.sl false (.int .u8) 1))), (9, .v (.c (.int .i64 (([2, 3, 5, 7, 9] : List Int).getD j 0)))), (70, .rows 2 1 4), (71, .v (.c (.int .i64 4))), (72, .v (.c (.int .i64 (j : Int))))],
      [(7, some (.flat false (.int .u8) none [r, s])), (6, some (.flat false (.int .u8) none [p, q])), (5, some (.flat false (.int .u8) none [d, e])), (4, some (.flat false (.int .u8) none [c])), (3, some (.flat false (.int .u8) none [a, b])),
       (2, some (.box false [.sl false (.int .u8) 3, .sl false (.int .u8) 4, .sl false (.int .u8) 5, .sl false (.int .u8) 6, .sl false (.int .u8) 7])),
       (1, some (.flat true (.int .u8) none (match j with | 0 => [a, b, z2, z3, z4, z5, z6, z7, z8] | 1 => [a, b, c, z3, z4, z5, z6, z7, z8] | 2 => [a, b, c, d, e, z5, z6, z7, z8] | 3 => [a, b, c, d, e, p, q, z7, z8] | _ => [a, b, c, d, e, p, q, r, s]))),
       (0, some (.flat false (.int .u8) none []))], nums.tail.tail.tail.tail.tail.tail.tail.tail, [], false, []⟩) (fun j => j ≤ 4) (fun j => 4 - j) (fun j R hI hR => ?_) 0 _ (show (0 : Nat) ≤ 4 by decide) (show 4 - 0 < 10 by decide)
  have hj : j = 0 ∨ j = 1 ∨ j = 2 ∨ j = 3 ∨ j = 4 := by omega
  rcases hj with rfl | rfl | rfl | rfl | rfl
  · conv => whnf
    repeat' (first | (refine sel_i (fun h => ?_) (fun h => ?_) <;> first | (exfalso; revert h; decide) | conv => whnf) | (refine chk_c ?_ ?_ <;> conv => whnf) | (refine iter_s ?_; conv => whnf) | (refine And.intro ?_ rfl) | (refine And.intro ?_ ?_ <;> conv => whnf))
    all_goals first
      | (refine ⟨?_⟩; decide)
      | (refine ⟨?_⟩; exact (show (0 : Int) ≤ 2 ∧ (2 : Int) ≤ 9 by decide))
      | exact hR 1 (by decide) (by decide)
      | trace_state
  · conv => whnf
    repeat' (first | (refine sel_i (fun h => ?_) (fun h => ?_) <;> first | (exfalso; revert h; decide) | conv => whnf) | (refine chk_c ?_ ?_ <;> conv => whnf) | (refine iter_s ?_; conv => whnf) | (refine And.intro ?_ rfl) | (refine And.intro ?_ ?_ <;> conv => whnf))
    all_goals first
      | (refine ⟨?_⟩; decide)
      | (refine ⟨?_⟩; exact (show (0 : Int) ≤ 3 ∧ (3 : Int) ≤ 9 by decide))
      | exact hR 2 (by decide) (by decide)
      | trace_state
  · conv => whnf
    repeat' (first | (refine sel_i (fun h => ?_) (fun h => ?_) <;> first | (exfalso; revert h; decide) | conv => whnf) | (refine chk_c ?_ ?_ <;> conv => whnf) | (refine iter_s ?_; conv => whnf) | (refine And.intro ?_ rfl) | (refine And.intro ?_ ?_ <;> conv => whnf))
    all_goals first
      | (refine ⟨?_⟩; decide)
      | (refine ⟨?_⟩; exact (show (0 : Int) ≤ 5 ∧ (5 : Int) ≤ 9 by decide))
      | exact hR 3 (by decide) (by decide)
      | trace_state
  · conv => whnf
    repeat' (first | (refine sel_i (fun h => ?_) (fun h => ?_) <;> first | (exfalso; revert h; decide) | conv => whnf) | (refine chk_c ?_ ?_ <;> conv => whnf) | (refine iter_s ?_; conv => whnf) | (refine And.intro ?_ rfl) | (refine And.intro ?_ ?_ <;> conv => whnf))
    all_goals first
      | (refine ⟨?_⟩; decide)
      | (refine ⟨?_⟩; exact (show (0 : Int) ≤ 7 ∧ (7 : Int) ≤ 9 by decide))
      | exact hR 4 (by decide) (by decide)
      | trace_state
  · conv => whnf
    repeat' (first | (refine sel_i (fun h => ?_) (fun h => ?_) <;> first | (exfalso; revert h; decide) | conv => whnf) | (refine chk_c ?_ ?_ <;> conv => whnf) | (refine iter_s ?_; conv => whnf) | (refine And.intro ?_ rfl) | (refine And.intro ?_ ?_ <;> conv => whnf))
    all_goals first
      | (refine ⟨?_⟩; decide)
      | exact ⟨rfl, rfl⟩
      | rfl
      | trace_state
theorem ok_bytes_Join : FunOk Tryz.prog c_bytes_Join := funOk (E := [c_bytealg_MakeNoZero]) (envOk_cons ok_bytealg_MakeNoZero envOk_nil) mixd Tryz.func96 (pf := pf_bytes_Join) (by kernel_rfl) fun ts K h => by
  obtain ⟨t0, t1, e0, hp⟩ := as2_out h
  clear h
  subst e0
  obtain ⟨xss, e1, hq⟩ := arRB_out hp
  clear hp
  subst e1
  obtain ⟨sep, e2, hr⟩ := arC_out (rd_l (.int .u8)) hq
  clear hq
  subst e2
  obtain ⟨e3, h2⟩ := noneL_out hr
  clear hr
  have e3 : sep = [] := e3
  subst e3
  obtain ⟨a, b, c, d, e, p, q, r, s, e4, h3⟩ := five_out h2
  clear h2
  subst e4
  exact ⟨_, _, h3, Nat.le_of_ble_eq_true (show Nat.ble 2 Tryz.f96.ntmps = true by kernel_rfl), _, run_bytes_Join a b c d e p q r s⟩

theorem hi8s {n : Int} : IntKind.u8.wrap (n.fdiv (2 ^ min (Int.toNat 8) IntKind.i64.bits)) = (n / 256) % 256 := by
  rw [show (2 ^ min (Int.toNat 8) IntKind.i64.bits : Int) = 256 by decide, Int.fdiv_eq_ediv_of_nonneg _ (by decide)]
  rfl

def pf_impl_two : PF := ⟨[.t 2], .seq (.reg [.s (.mv 2 (.k (.v (.c (.nils (.int .u8))))))]) (.seq (.reg [.s (.mv 3 (.t 0)), .s (.bin 4 .shr (.t 3) (.k (.v (.c (.int .u64 8))))), .s (.conv 5 .u8 (.t 4)), .s (.mv 6 (.t 0)), .s (.conv 7 .u8 (.t 6)), .s (.bs 8 (.int .u8) [(.t 5), (.t 7)]), .s (.mv 2 (.t 8))]) (.ret))⟩
def c_impl_two : Fun := ⟨95, [], fun ts K => as1 ts fun t0 => arC (pI .i64) t0 fun n => K (tL true (.int .u8) [(n / 256) % 256, n % 256]) []⟩
theorem run_impl_two (n : Int) : runK [] (0) [] pf_impl_two [tI .i64 n] fun r o => r = tL true (.int .u8) [(n / 256) % 256, n % 256] ∧ o = [] := by
  conv => whnf
  repeat' (first | (refine sel_i (fun h => ?_) (fun h => ?_) <;> conv => whnf) | (refine chk_c ?_ ?_ <;> conv => whnf) | (refine And.intro ?_ rfl) | (refine And.intro ?_ ?_ <;> conv => whnf))
  all_goals (try simp only [hi8s])
  all_goals first
    | (refine ⟨?_⟩; decide)
    | rfl
    | trace_state
theorem ok_impl_two : FunOk Tryz.prog c_impl_two := funOk (E := []) (envOk_nil) mixd Tryz.func95 (pf := pf_impl_two) (by kernel_rfl) fun ts K h => by
  obtain ⟨t0, e0, h⟩ := as1_out h
  subst e0
  obtain ⟨n, e1, hq⟩ := arC_out (rd_int .i64) h
  clear h
  subst e1
  have h := hq
  clear hq
  exact ⟨_, _, h, Nat.le_of_ble_eq_true (show Nat.ble 1 Tryz.f95.ntmps = true by kernel_rfl), _, run_impl_two n⟩

def pf_impl_WordBytes : PF := ⟨[.t 2], .seq (.reg [.s (.box 1 (.t 0)), .s (.mv 2 (.k (.v (.c (.nils (.int .u8))))))]) (.seq (.seq (.reg [.s (.load 3 true 6 (.t 1)), .s (.call (some 4) 84 [(.t 3)]), .s (.bnot 5 (.t 4))]) (.cond (.t 5) (.seq (.reg [.s (.mv 2 (.k (.v (.c (.nils (.int .u8))))))]) (.ret)) (.skip))) (.seq (.seq (.reg [.s (.fa 6 (.t 1) 1), .s (.load 7 false 1 (.t 6)), .s (.bnot 8 (.t 7))]) (.cond (.t 8) (.seq (.reg [.s (.fa 9 (.t 1) 0), .s (.load 10 false 1 (.t 9)), .s (.call (some 11) 95 [(.t 10)]), .s (.bs 12 (.int .u8) [(.k (.v (.c (.int .u8 0))))]), .s (.app 13 (.int .u8) (.t 11) (.t 12)), .s (.mv 2 (.t 13))]) (.ret)) (.skip))) (.seq (.rgd [.s (.fa 14 (.t 1) 0), .s (.load 15 false 1 (.t 14)), .s (.call (some 16) 95 [(.t 15)]), .s (.bs 17 (.int .u8) [(.k (.v (.c (.int .u8 1))))]), .s (.fa 18 (.t 1) 2), .s (.fa 19 (.t 18) 0), .s (.load 20 false 1 (.t 19)), .s (.call (some 21) 95 [(.t 20)]), .s (.fa 22 (.t 1) 2), .s (.fa 23 (.t 22) 1), .s (.load 24 false 1 (.t 23)), .s (.call (some 25) 95 [(.t 24)]), .s (.fa 26 (.t 1) 2), .s (.fa 27 (.t 26) 2), .s (.load 28 false 1 (.t 27)), .s (.conv 29 .u8 (.t 28)), .s (.fa 30 (.t 1) 2), .s (.fa 31 (.t 30) 3), .s (.load 32 false 1 (.t 31)), .s (.conv 33 .u8 (.t 32)), .s (.bs 34 (.int .u8) [(.t 29), (.t 33)]), .s (.bsr 35 [(.t 16), (.t 17), (.t 21), (.t 25), (.t 34)]), .s (.call (some 36) 96 [(.t 35), (.k (.v (.c (.nils (.int .u8)))))]), .s (.mv 2 (.t 36))] (.tk 0 (.tk 1 (.tk 4 (.tk 5 (.tk 6 (.tk 8 (.tk 9 (.tk 10 (.tk 12 (.tk 13 (.tk 14 (.tk 15 (.tk 16 (.tk 17 (.tk 18 (.tk 19 (.alt 2 false (.alt 3 false (.alt 7 false (.alt 11 false (.one 20 false (.one 21 true (.one 22 true (.tk 23 (.done (some [2])))))) (.alt 20 false (.one 11 false (.one 21 true (.one 22 true (.tk 23 (.done (some [2])))))) (.nil))) (.alt 20 false (.one 7 false (.one 11 false (.one 21 true (.one 22 true (.tk 23 (.done (some [2]))))))) (.nil))) (.alt 7 false (.alt 3 false (.alt 11 false (.one 20 false (.one 21 true (.one 22 true (.tk 23 (.done (some [2])))))) (.alt 20 false (.one 11 false (.one 21 true (.one 22 true (.tk 23 (.done (some [2])))))) (.nil))) (.alt 11 false (.alt 3 false (.one 20 false (.one 21 true (.one 22 true (.tk 23 (.done (some [2])))))) (.alt 20 false (.one 3 false (.one 21 true (.one 22 true (.tk 23 (.done (some [2])))))) (.nil))) (.alt 20 false (.alt 3 false (.one 11 false (.one 21 true (.one 22 true (.tk 23 (.done (some [2])))))) (.alt 11 false (.one 3 false (.one 21 true (.one 22 true (.tk 23 (.done (some [2])))))) (.nil))) (.nil)))) (.alt 20 false (.alt 3 false (.one 7 false (.one 11 false (.one 21 true (.one 22 true (.tk 23 (.done (some [2]))))))) (.alt 7 false (.alt 3 false (.one 11 false (.one 21 true (.one 22 true (.tk 23 (.done (some [2])))))) (.alt 11 false (.one 3 false (.one 21 true (.one 22 true (.tk 23 (.done (some [2])))))) (.nil))) (.nil))) (.nil)))) (.alt 3 false (.alt 2 false (.alt 7 false (.alt 11 false (.one 20 false (.one 21 true (.one 22 true (.tk 23 (.done (some [2])))))) (.alt 20 false (.one 11 false (.one 21 true (.one 22 true (.tk 23 (.done (some [2])))))) (.nil))) (.alt 20 false (.one 7 false (.one 11 false (.one 21 true (.one 22 true (.tk 23 (.done (some [2]))))))) (.nil))) (.alt 20 false (.one 2 false (.one 7 false (.one 11 false (.one 21 true (.one 22 true (.tk 23 (.done (some [2])))))))) (.nil))) (.alt 20 false (.alt 2 false (.alt 3 false (.one 7 false (.one 11 false (.one 21 true (.one 22 true (.tk 23 (.done (some [2]))))))) (.alt 7 false (.alt 3 false (.one 11 false (.one 21 true (.one 22 true (.tk 23 (.done (some [2])))))) (.alt 11 false (.one 3 false (.one 21 true (.one 22 true (.tk 23 (.done (some [2])))))) (.nil))) (.nil))) (.alt 3 false (.one 2 false (.one 7 false (.one 11 false (.one 21 true (.one 22 true (.tk 23 (.done (some [2])))))))) (.nil))) (.nil))))))))))))))))))))) (.ret))))⟩
def c_impl_WordBytes : Fun := ⟨70, [], fun ts K => as1 ts fun t0 => arG pWordT t0 fun w => K (tL true (.int .u8) (wordBytes w)) []⟩
theorem run_impl_WordBytes (w : Word) : runK [c_impl_WordOk, c_impl_two, c_bytes_Join] (0) [] pf_impl_WordBytes [tG (w.tc [])] fun r o => r = tL true (.int .u8) (wordBytes w) ∧ o = [] := by
  conv => whnf
  repeat' (first | (refine sel_i (fun h => ?_) (fun h => ?_) <;> conv => whnf) | (refine chk_c ?_ ?_ <;> conv => whnf) | (refine And.intro ?_ rfl) | (refine And.intro ?_ ?_ <;> conv => whnf))
  all_goals (try simp only [etaKey, etaWord, Bool.not_eq_true', Bool.not_eq_false'] at *)
  all_goals first
    | (refine ⟨?_⟩; show 3 ≤ 2147483647; decide)
    | trivial
    | (simp only [wordBytes, *]; rfl)
    | (rename_i h1
       have h2 := h
       have hn := wordOk_n h1
       rw [show w.n / 256 % 256 = w.n / 256 by omega]
       simp only [wordBytes, h1, h2, if_true, Bool.false_eq_true, if_false]; rfl)
    | (have h1 : wordOk w = true := by assumption
       have h2 := h
       have hn := wordOk_n h1
       have hk := wordOk_key h1 h2
       rw [show w.n / 256 % 256 = w.n / 256 by omega, show w.key.base / 256 % 256 = w.key.base / 256 by omega, show w.key.top / 256 % 256 = w.key.top / 256 by omega, u8_id (n := w.key.perms) (by omega), u8_id (n := w.key.sealed) (by omega)]
       simp only [wordBytes, h1, h2, if_true]; done)
    | trace_state
theorem ok_impl_WordBytes : FunOk Tryz.prog c_impl_WordBytes := funOk (E := [c_impl_WordOk, c_impl_two, c_bytes_Join]) (envOk_cons ok_impl_WordOk (envOk_cons ok_impl_two (envOk_cons ok_bytes_Join (envOk_nil)))) mixd Tryz.func70 (pf := pf_impl_WordBytes) (by kernel_rfl) fun ts K h => by
  obtain ⟨t0, e0, h⟩ := as1_out h
  subst e0
  obtain ⟨w, e1, hq⟩ := arG_out rd_word h
  clear h
  subst e1
  have h := hq
  clear hq
  exact ⟨_, _, h, Nat.le_of_ble_eq_true (show Nat.ble 1 Tryz.f70.ntmps = true by kernel_rfl), _, run_impl_WordBytes w⟩

theorem wordBytes_len (w : Word) : (wordBytes w).length ≤ 9 := by
  unfold wordBytes
  split
  · split <;> simp
  · simp

def elSeen (c : Int) : Seen := ⟨c, c + 1, c + 1 + 1, c + 1 + 1 + 1⟩
def mkSeenS (n : Nat) (k : Int) : List Seen := (List.range n).map (fun j : Nat => elSeen (k + 4 * j))
theorem mkSeenS_length (n : Nat) (k : Int) : (mkSeenS n k).length = n := by simp [mkSeenS]

def lb_laws_eqSeenS_0 : PC := .seq (.seq (.reg [.s (.mv 11 (.t 5)), .s (.mv 12 (.t 0)), .s (.len 13 false (.t 12)), .s (.bin 14 .lss (.t 11) (.t 13))]) (.cond (.t 14) (.skip) (.exit 0))) (.seq (.blk 1 (.seq (.rgd [.s (.mv 17 (.t 0)), .s (.mv 18 (.t 5)), .s (.ia 19 .seen (.t 17) (.t 18)), .s (.load 20 true 4 (.t 19)), .s (.mv 21 (.t 1)), .s (.mv 22 (.t 5)), .s (.ia 23 .seen (.t 21) (.t 22)), .s (.load 24 true 4 (.t 23)), .s (.call (some 25) 35 [(.t 20), (.t 24)]), .s (.bnot 26 (.t 25))] (.tk 0 (.tk 1 (.tk 2 (.tk 3 (.tk 4 (.tk 5 (.tk 6 (.tk 7 (.one 8 true (.tk 9 (.done none)))))))))))) (.cond (.t 26) (.seq (.reg [.s (.mv 4 (.k (.v (.c .ff))))]) (.ret)) (.skip)))) (.reg [.s (.mv 15 (.t 5)), .s (.bin 16 .add (.t 15) (.k (.v (.c (.int .i64 1))))), .s (.mv 5 (.t 16))]))
def pf_laws_eqSeenS : PF := ⟨[.t 4], .seq (.reg [.s (.mv 4 (.k (.v (.c .ff))))]) (.seq (.seq (.reg [.s (.mv 6 (.t 0)), .s (.len 7 false (.t 6)), .s (.mv 8 (.t 1)), .s (.len 9 false (.t 8)), .s (.bin 10 .neq (.t 7) (.t 9))]) (.cond (.t 10) (.seq (.reg [.s (.mv 4 (.k (.v (.c .ff))))]) (.ret)) (.skip))) (.seq (.seq (.reg [.s (.mv 5 (.k (.v (.c (.int .i64 0)))))]) (.blk 0 (.loop [0, 1, 5] lb_laws_eqSeenS_0))) (.seq (.reg [.s (.mv 4 (.k (.v (.c .tt))))]) (.ret))))⟩
def c_laws_eqSeenS : Fun := ⟨11, [], fun ts K => as2 ts fun t0 t1 => arC (pL .seen) t0 fun a => arC (pL .seen) t1 fun b => chk (a.length ≤ 2147483647) (K (tB (decide (a = b))) [])⟩
theorem run_laws_eqSeenS (a : List (FT.Ty .seen)) (b : List (FT.Ty .seen)) (hpre : a.length ≤ 2147483647) : runK [c_laws_eqSeen] (a.length + 1) [] pf_laws_eqSeenS [tL false .seen a, tL false .seen b] fun r o => r = tB (decide (a = b)) ∧ o = [] := by
  conv => whnf
  refine sel_i (fun h => ?_) (fun h => ?_)
  · conv => whnf
    refine ⟨?_, rfl⟩
    simp at h
    simp
    intro e; subst e; simp at h
  · conv => whnf
    refine loop (α := Nat) (fun i => ⟨[(0, .v (.c (.sl false .seen 0))), (1, .v (.c (.sl false .seen 1))), (5, .v (.c (.int .i64 (i : Int))))], [(1, some (.flat false .seen none b)), (0, some (.flat false .seen none a))], nums.tail.tail, [], false, []⟩)
      (fun i => i ≤ a.length ∧ a.take i = b.take i) (fun i => a.length - i) (fun i R hI hR => ?_) 0 _ ⟨by simp, by simp⟩ (by omega)
    conv => whnf
    repeat' (first | (refine sel_i (fun h2 => ?_) (fun h2 => ?_) <;> conv => whnf) | (refine chk_c ?_ ?_ <;> conv => whnf))
    all_goals (have hl : a.length = b.length := by simp at h; omega)
    · exact ⟨by simp at h2; omega⟩
    · exact ⟨by simp at h2; omega⟩
    · exact ⟨by simp at h2; omega⟩
    · exact ⟨by simp at h2; omega⟩
    · refine ⟨?_, rfl⟩
      have hne : a ≠ b := fun e => by subst e; simp at h2
      simp [hne]
    · rename_i h3
      have hlt : i < a.length := by simpa using h3
      rw [wrap_id (n := (i : Int) + 1) (by omega) (by omega)]
      exact hR (i + 1) ⟨by omega, take_step (z := FT.zero .seen) hI.2 hlt (by omega) (nd_t h2)⟩ (by omega)
    · refine ⟨?_, rfl⟩
      have hge : a.length ≤ i := by simpa using h2
      have : a = b := take_all hI.2 hge (by omega)
      simp [this]
theorem ok_laws_eqSeenS : FunOk Tryz.prog c_laws_eqSeenS := funOk (E := [c_laws_eqSeen]) (envOk_cons ok_laws_eqSeen (envOk_nil)) mixd Tryz.func11 (pf := pf_laws_eqSeenS) (by kernel_rfl) fun ts K h => by
  obtain ⟨t0, t1, e0, h⟩ := as2_out h
  subst e0
  obtain ⟨a, e1, hq⟩ := arC_out (rd_l .seen) h
  clear h
  subst e1
  have h := hq
  clear hq
  obtain ⟨b, e1, hq⟩ := arC_out (rd_l .seen) h
  clear h
  subst e1
  have h := hq
  clear hq
  obtain ⟨hpre, h⟩ := chk_o h
  exact ⟨_, _, h, Nat.le_of_ble_eq_true (show Nat.ble 2 Tryz.f11.ntmps = true by kernel_rfl), _, run_laws_eqSeenS a b hpre⟩

def lb_laws_markSeenS_0 : PC := .seq (.seq (.reg [.s (.mv 6 (.t 5)), .s (.mv 7 (.t 0)), .s (.len 8 false (.t 7)), .s (.bin 9 .lss (.t 6) (.t 8))]) (.cond (.t 9) (.skip) (.exit 0))) (.seq (.blk 1 (.seq (.reg [.s (.mv 12 (.t 0)), .s (.mv 13 (.t 5)), .s (.mv 14 (.t 1)), .s (.ia 15 .seen (.t 12) (.t 13)), .s (.fa 16 (.t 15) 0), .s (.store 1 (.t 16) (.t 14))]) (.seq (.reg [.s (.mv 17 (.t 1)), .s (.bin 18 .add (.t 17) (.k (.v (.c (.int .i64 1))))), .s (.mv 1 (.t 18))]) (.seq (.reg [.s (.mv 19 (.t 0)), .s (.mv 20 (.t 5)), .s (.mv 21 (.t 1)), .s (.ia 22 .seen (.t 19) (.t 20)), .s (.fa 23 (.t 22) 1), .s (.store 1 (.t 23) (.t 21))]) (.seq (.reg [.s (.mv 24 (.t 1)), .s (.bin 25 .add (.t 24) (.k (.v (.c (.int .i64 1))))), .s (.mv 1 (.t 25))]) (.seq (.reg [.s (.mv 26 (.t 0)), .s (.mv 27 (.t 5)), .s (.mv 28 (.t 1)), .s (.ia 29 .seen (.t 26) (.t 27)), .s (.fa 30 (.t 29) 2), .s (.store 1 (.t 30) (.t 28))]) (.seq (.reg [.s (.mv 31 (.t 1)), .s (.bin 32 .add (.t 31) (.k (.v (.c (.int .i64 1))))), .s (.mv 1 (.t 32))]) (.seq (.reg [.s (.mv 33 (.t 0)), .s (.mv 34 (.t 5)), .s (.mv 35 (.t 1)), .s (.ia 36 .seen (.t 33) (.t 34)), .s (.fa 37 (.t 36) 3), .s (.store 1 (.t 37) (.t 35))]) (.reg [.s (.mv 38 (.t 1)), .s (.bin 39 .add (.t 38) (.k (.v (.c (.int .i64 1))))), .s (.mv 1 (.t 39))]))))))))) (.reg [.s (.mv 10 (.t 5)), .s (.bin 11 .add (.t 10) (.k (.v (.c (.int .i64 1))))), .s (.mv 5 (.t 11))]))
def pf_laws_markSeenS : PF := ⟨[.t 4], .seq (.reg [.s (.mv 4 (.k (.v (.c (.int .i64 0)))))]) (.seq (.seq (.reg [.s (.mv 5 (.k (.v (.c (.int .i64 0)))))]) (.blk 0 (.loop [0, 1, 5] lb_laws_markSeenS_0))) (.seq (.reg [.s (.mv 40 (.t 1)), .s (.mv 4 (.t 40))]) (.ret)))⟩
def c_laws_markSeenS : Fun := ⟨16, [true, false], fun ts K => as2 ts fun t0 t1 => arC (pO .seen) t0 fun a => arC (pI .i64) t1 fun k => chk (0 ≤ k ∧ k ≤ 1125899906842624 ∧ a.length ≤ 2147483647) (K (tN (k + 4 * a.length)) ([tL true .seen (mkSeenS a.length k)]))⟩
theorem run_laws_markSeenS (a : List (FT.Ty .seen)) (k : Int) (hpre : 0 ≤ k ∧ k ≤ 1125899906842624 ∧ a.length ≤ 2147483647) : runK [] (a.length + 1) [true, false] pf_laws_markSeenS [tL true .seen a, tI .i64 k] fun r o => r = tN (k + 4 * a.length) ∧ o = [tL true .seen (mkSeenS a.length k)] := by
  have hml : (mkSeenS a.length k).length = a.length := by simp [mkSeenS]
  conv => whnf
  refine loop (α := Nat × Int × List Seen) (fun p => ⟨[(0, .v (.c (.sl false .seen 0))), (1, .v (.c (.int .i64 p.2.1))), (5, .v (.c (.int .i64 (p.1 : Int))))], [(0, some (.flat true .seen none p.2.2))], nums.tail, [.v (.c (.sl false .seen 0))], false, []⟩)
      (fun p => p.1 ≤ a.length ∧ p.2.1 = k + 4 * p.1 ∧ p.2.2 = (mkSeenS a.length k).take p.1 ++ a.drop p.1) (fun p => a.length - p.1) (fun p R hI hR => ?_) (0, k, a) _ ⟨by simp, by simp, by simp⟩ (by simp)
  obtain ⟨i, c, xs⟩ := p
  obtain ⟨hi, hc, hx⟩ := hI
  dsimp only at hi hc hx
  have hlen : xs.length = a.length := by rw [hx]; simp [hml]; omega
  dsimp only
  conv => whnf
  refine sel_i (fun h2 => ?_) (fun h2 => ?_)
  · have hlt : i < a.length := by simp at h2; omega
    have hget : ∀ x : Seen, (xs.set i x).getD i (FT.zero .seen) = x := fun x => by simp [List.getD_eq_getElem?_getD, hlen, hlt]
    have hmk : (mkSeenS a.length k)[i]? = some (elSeen c) := by simp [mkSeenS, hlt, hc]
    conv => whnf
    repeat' (refine chk_c ?_ ?_ <;> conv => whnf)
    all_goals first
      | (refine ⟨?_⟩; omega)
      | (refine ⟨?_⟩; simp; done)
      | (refine ⟨?_⟩; simp; omega)
      | skip
    simp (disch := omega) only [wrap_id, Int.toNat_natCast, hget, List.set_set]
    exact hR (i + 1, c + 1 + 1 + 1 + 1, xs.set i (elSeen c)) ⟨by omega, by simp; omega, by rw [hx]; exact set_mid hml hlt hmk⟩ (by simp; omega)
  · have hge : i = a.length := by simp at h2; omega
    subst hge
    conv => whnf
    refine ⟨by rw [hc], ?_⟩
    rw [hx, List.take_of_length_le (by omega), List.drop_eq_nil_of_le (by omega), List.append_nil]
theorem ok_laws_markSeenS : FunOk Tryz.prog c_laws_markSeenS := funOk (E := []) (envOk_nil) mixd Tryz.func16 (pf := pf_laws_markSeenS) (by kernel_rfl) fun ts K h => by
  obtain ⟨t0, t1, e0, h⟩ := as2_out h
  subst e0
  obtain ⟨a, e1, hq⟩ := arC_out (rd_o .seen) h
  clear h
  subst e1
  have h := hq
  clear hq
  obtain ⟨k, e1, hq⟩ := arC_out (rd_int .i64) h
  clear h
  subst e1
  have h := hq
  clear hq
  obtain ⟨hpre, h⟩ := chk_o h
  exact ⟨_, _, h, Nat.le_of_ble_eq_true (show Nat.ble 2 Tryz.f16.ntmps = true by kernel_rfl), _, run_laws_markSeenS a k hpre⟩

def lb_laws_heldSeenS_0 : PC := .seq (.seq (.reg [.s (.mv 6 (.t 5)), .s (.mv 7 (.t 0)), .s (.len 8 false (.t 7)), .s (.bin 9 .lss (.t 6) (.t 8))]) (.cond (.t 9) (.skip) (.exit 0))) (.seq (.blk 1 (.seq (.seq (.reg [.s (.mv 12 (.t 0)), .s (.mv 13 (.t 5)), .s (.ia 14 .seen (.t 12) (.t 13)), .s (.fa 15 (.t 14) 0), .s (.load 16 false 1 (.t 15)), .s (.mv 17 (.t 1)), .s (.bin 18 .neq (.t 16) (.t 17))]) (.cond (.t 18) (.seq (.reg [.s (.mv 4 (.k (.v (.c (.int .i64 (-1))))))]) (.ret)) (.skip))) (.seq (.reg [.s (.mv 19 (.t 1)), .s (.bin 20 .add (.t 19) (.k (.v (.c (.int .i64 1))))), .s (.mv 1 (.t 20))]) (.seq (.seq (.reg [.s (.mv 21 (.t 0)), .s (.mv 22 (.t 5)), .s (.ia 23 .seen (.t 21) (.t 22)), .s (.fa 24 (.t 23) 1), .s (.load 25 false 1 (.t 24)), .s (.mv 26 (.t 1)), .s (.bin 27 .neq (.t 25) (.t 26))]) (.cond (.t 27) (.seq (.reg [.s (.mv 4 (.k (.v (.c (.int .i64 (-1))))))]) (.ret)) (.skip))) (.seq (.reg [.s (.mv 28 (.t 1)), .s (.bin 29 .add (.t 28) (.k (.v (.c (.int .i64 1))))), .s (.mv 1 (.t 29))]) (.seq (.seq (.reg [.s (.mv 30 (.t 0)), .s (.mv 31 (.t 5)), .s (.ia 32 .seen (.t 30) (.t 31)), .s (.fa 33 (.t 32) 2), .s (.load 34 false 1 (.t 33)), .s (.mv 35 (.t 1)), .s (.bin 36 .neq (.t 34) (.t 35))]) (.cond (.t 36) (.seq (.reg [.s (.mv 4 (.k (.v (.c (.int .i64 (-1))))))]) (.ret)) (.skip))) (.seq (.reg [.s (.mv 37 (.t 1)), .s (.bin 38 .add (.t 37) (.k (.v (.c (.int .i64 1))))), .s (.mv 1 (.t 38))]) (.seq (.seq (.reg [.s (.mv 39 (.t 0)), .s (.mv 40 (.t 5)), .s (.ia 41 .seen (.t 39) (.t 40)), .s (.fa 42 (.t 41) 3), .s (.load 43 false 1 (.t 42)), .s (.mv 44 (.t 1)), .s (.bin 45 .neq (.t 43) (.t 44))]) (.cond (.t 45) (.seq (.reg [.s (.mv 4 (.k (.v (.c (.int .i64 (-1))))))]) (.ret)) (.skip))) (.reg [.s (.mv 46 (.t 1)), .s (.bin 47 .add (.t 46) (.k (.v (.c (.int .i64 1))))), .s (.mv 1 (.t 47))]))))))))) (.reg [.s (.mv 10 (.t 5)), .s (.bin 11 .add (.t 10) (.k (.v (.c (.int .i64 1))))), .s (.mv 5 (.t 11))]))
def pf_laws_heldSeenS : PF := ⟨[.t 4], .seq (.reg [.s (.mv 4 (.k (.v (.c (.int .i64 0)))))]) (.seq (.seq (.reg [.s (.mv 5 (.k (.v (.c (.int .i64 0)))))]) (.blk 0 (.loop [0, 1, 5] lb_laws_heldSeenS_0))) (.seq (.reg [.s (.mv 48 (.t 1)), .s (.mv 4 (.t 48))]) (.ret)))⟩
def c_laws_heldSeenS : Fun := ⟨17, [], fun ts K => as2 ts fun t0 t1 => arC (pL .seen) t0 fun a => arC (pI .i64) t1 fun k => chk (0 ≤ k ∧ k ≤ 1125899906842624 ∧ a.length ≤ 2147483647) (K (tN (hres (a = mkSeenS a.length k) (k + 4 * a.length))) [])⟩
theorem run_laws_heldSeenS (a : List (FT.Ty .seen)) (k : Int) (hpre : 0 ≤ k ∧ k ≤ 1125899906842624 ∧ a.length ≤ 2147483647) : runK [] (a.length + 1) [] pf_laws_heldSeenS [tL false .seen a, tI .i64 k] fun r o => r = tN (hres (a = mkSeenS a.length k) (k + 4 * a.length)) ∧ o = [] := by
  have hml : (mkSeenS a.length k).length = a.length := by simp [mkSeenS]
  conv => whnf
  refine loop (α := Nat × Int) (fun p => ⟨[(0, .v (.c (.sl false .seen 0))), (1, .v (.c (.int .i64 p.2))), (5, .v (.c (.int .i64 (p.1 : Int))))], [(0, some (.flat false .seen none a))], nums.tail, [], false, []⟩)
      (fun p => p.1 ≤ a.length ∧ p.2 = k + 4 * p.1 ∧ a.take p.1 = (mkSeenS a.length k).take p.1) (fun p => a.length - p.1) (fun p R hI hR => ?_) (0, k) _ ⟨by simp, by simp, by simp⟩ (by simp)
  obtain ⟨i, c⟩ := p
  obtain ⟨hi, hc, hx⟩ := hI
  dsimp only at hi hc hx
  dsimp only
  conv => whnf
  refine sel_i (fun h2 => ?_) (fun h2 => ?_)
  · have hlt : i < a.length := by simp at h2; omega
    have hmk : (mkSeenS a.length k).getD i (FT.zero .seen) = elSeen c := by simp [mkSeenS, List.getD_eq_getElem?_getD, hlt, hc]
    have hne : a.getD i (FT.zero .seen) ≠ elSeen c → a ≠ mkSeenS a.length k := fun h e => h (by rw [← hmk, ← e])
    conv => whnf
    repeat' (first | (refine sel_i (fun h2 => ?_) (fun h2 => ?_) <;> conv => whnf) | (refine chk_c ?_ ?_ <;> conv => whnf))
    all_goals first
      | (refine ⟨?_⟩; omega)
      | (refine ⟨?_⟩; simp; done)
      | (refine ⟨?_⟩; simp; omega)
      | (refine ⟨?_, rfl⟩
         rw [hres_no (hne (fun e => by
           simp (disch := omega) only [wrap_id, Int.toNat_natCast, e] at h2
           simp [elSeen] at h2))])
      | skip
    rename_i e0 e1 e2 e3
    simp (disch := omega) only [wrap_id, Int.toNat_natCast] at e1 e2 e3 h2 ⊢
    have he : a.getD i (FT.zero .seen) = elSeen c := by
      generalize a.getD i (FT.zero .seen) = v at e1 e2 e3 h2
      obtain ⟨v0, v1, v2, v3⟩ := v
      simp at e1 e2 e3 h2
      simp [elSeen, *]
    exact hR (i + 1, c + 1 + 1 + 1 + 1) ⟨by omega, by simp; omega, take_step hx hlt (by omega) (he.trans hmk.symm)⟩ (by simp; omega)
  · have hge : i = a.length := by simp at h2; omega
    subst hge
    conv => whnf
    refine ⟨?_, rfl⟩
    rw [List.take_of_length_le (by omega), List.take_of_length_le (by omega)] at hx
    rw [hres_yes hx, hc]
theorem ok_laws_heldSeenS : FunOk Tryz.prog c_laws_heldSeenS := funOk (E := []) (envOk_nil) mixd Tryz.func17 (pf := pf_laws_heldSeenS) (by kernel_rfl) fun ts K h => by
  obtain ⟨t0, t1, e0, h⟩ := as2_out h
  subst e0
  obtain ⟨a, e1, hq⟩ := arC_out (rd_l .seen) h
  clear h
  subst e1
  have h := hq
  clear hq
  obtain ⟨k, e1, hq⟩ := arC_out (rd_int .i64) h
  clear h
  subst e1
  have h := hq
  clear hq
  obtain ⟨hpre, h⟩ := chk_o h
  exact ⟨_, _, h, Nat.le_of_ble_eq_true (show Nat.ble 2 Tryz.f17.ntmps = true by kernel_rfl), _, run_laws_heldSeenS a k hpre⟩

def seenGo (l : List Inst) : Nat → State → List Seen
  | 0, _ => []
  | k + 1, s => if (seenOf l s).2 then (seenOf l s).1 :: seenGo l k (stepS l s) else []
def seenRun (l : List Inst) (s : State) (n : Int) : List Seen := seenGo l (min n 600).toNat s
theorem seenGo_len (l : List Inst) : ∀ (k : Nat) (s : State), (seenGo l k s).length ≤ k
  | 0, _ => Nat.le_refl _
  | k + 1, s => by
    unfold seenGo
    split
    · have := seenGo_len l k (stepS l s); simp; omega
    · simp
theorem seenRun_len (l : List Inst) (s : State) (n : Int) : (seenRun l s n).length ≤ 600 := by
  have := seenGo_len l (min n 600).toNat s
  unfold seenRun; omega

theorem seenGo_no {l : List Inst} {s : State} (h : (seenOf l s).2 = false) : ∀ k, seenGo l k s = []
  | 0 => rfl
  | k + 1 => by unfold seenGo; rw [h]; rfl
theorem seenRun_step {l : List Inst} {s v : State} {n : Int} {xs : List Seen} (hx : xs ++ seenGo l ((min n 600).toNat - xs.length) v = seenRun l s n) (h : (xs.length : Int) < min n 600) (h2 : (seenOf l v).2 = true) :
    (xs ++ [(seenOf l v).1]) ++ seenGo l ((min n 600).toNat - (xs ++ [(seenOf l v).1]).length) (stepS l v) = seenRun l s n := by
  rw [← hx]
  obtain ⟨k, hk⟩ : ∃ k, (min n 600).toNat - xs.length = k + 1 := ⟨(min n 600).toNat - xs.length - 1, by omega⟩
  rw [show (min n 600).toNat - (xs ++ [(seenOf l v).1]).length = k by simp; omega, hk]
  rw [show seenGo l (k + 1) v = (seenOf l v).1 :: seenGo l k (stepS l v) by simp only [seenGo, h2, if_true]]
  simp
theorem seenRun_end {l : List Inst} {s v : State} {n : Int} {xs : List Seen} (hx : xs ++ seenGo l ((min n 600).toNat - xs.length) v = seenRun l s n) (h : ¬ (xs.length : Int) < min n 600) : seenRun l s n = xs := by
  rw [← hx, show (min n 600).toNat - xs.length = 0 by omega]; simp [seenGo]
theorem seenRun_stop {l : List Inst} {s v : State} {n : Int} {xs : List Seen} (hx : xs ++ seenGo l ((min n 600).toNat - xs.length) v = seenRun l s n) (h : (seenOf l v).2 = false) : seenRun l s n = xs := by
  rw [← hx, seenGo_no h]; simp

def lb_impl_SeenRun_0 : PC := .seq (.seq (.reg [.s (.mv 11 (.t 7)), .s (.len 12 false (.t 11)), .s (.mv 13 (.t 2)), .s (.mm 14 false (.t 13) (.k (.v (.c (.int .i64 600))))), .s (.bin 15 .lss (.t 12) (.t 14))]) (.cond (.t 15) (.skip) (.exit 0))) (.blk 1 (.seq (.reg [.s (.mv 17 (.t 0)), .s (.load 18 true 10 (.t 4)), .s (.call (some 19) 33 [(.t 17), (.t 18)]), .s (.mv 16 (.t 19)), .s (.ext 20 (.t 16) 0), .s (.ext 21 (.t 16) 1), .s (.alloc 8 [.int .i64 0, .int .i64 0, .int .i64 0, .int .i64 0]), .s (.store 4 (.t 8) (.t 20)), .s (.mv 9 (.t 21))]) (.seq (.seq (.reg [.s (.mv 22 (.t 9)), .s (.bnot 23 (.t 22))]) (.cond (.t 23) (.exit 0) (.skip))) (.seq (.reg [.s (.mv 24 (.t 7)), .s (.load 25 true 4 (.t 8)), .s (.bs 26 .seen [(.t 25)]), .s (.app 27 .seen (.t 24) (.t 26)), .s (.mv 7 (.t 27))]) (.reg [.s (.mv 28 (.t 0)), .s (.load 29 true 10 (.t 4)), .s (.call (some 30) 34 [(.t 28), (.t 29)]), .s (.store 10 (.t 4) (.t 30))])))))
def pf_impl_SeenRun : PF := ⟨[.t 6], .seq (.reg [.s (.box 4 (.t 1)), .s (.mv 6 (.k (.v (.c (.nils .seen)))))]) (.seq (.reg [.s (.bs 10 .seen []), .s (.mv 7 (.t 10))]) (.seq (.blk 0 (.loop [0, 2, 4, 7] lb_impl_SeenRun_0)) (.seq (.reg [.s (.mv 31 (.t 7)), .s (.mv 6 (.t 31))]) (.ret))))⟩
def c_impl_SeenRun : Fun := ⟨10, [], fun ts K => as3 ts fun t0 t1 t2 => arC (pL .inst) t0 fun l => arG pStateT t1 fun s => arC (pI .i64) t2 fun n => chk (l.length ≤ 2147483647 ∧ LState s 2147483647) (K (tL true .seen (seenRun l s n)) [])⟩
theorem run_impl_SeenRun (l : List (FT.Ty .inst)) (s : State) (n : Int) (hpre : l.length ≤ 2147483647 ∧ LState s 2147483647) : runK [c_impl_SeenOf, c_impl_Step] (602) [] pf_impl_SeenRun [tL false .inst l, tG (s.tc false []), tI .i64 n] fun r o => r = tL true .seen (seenRun l s n) ∧ o = [] := by
  obtain ⟨l1, l2⟩ := hpre
  conv => whnf
  refine loop (α := Bool × State × List Seen) (fun q => ⟨[(0, .v (.c (.sl false .inst 0))), (2, .v (.c (.int .i64 n))), (4, .v (.c (.ptr 1 0))), (7, .v (.c (.sl true .seen 5)))],
        [(5, some (.flat true .seen none q.2.2)), (4, some (.flat q.1 .bool none q.2.1.mem.gone)), (3, some (.flat q.1 .word none q.2.1.mem.words)), (2, some (.flat q.1 .word none q.2.1.regs)), (1, some (.box true [.sl false .word 2, .int .i64 q.2.1.pc.n, .bool q.2.1.pc.is, .int .i64 q.2.1.pc.key.base, .int .i64 q.2.1.pc.key.top, .int .i64 q.2.1.pc.key.perms, .int .i64 q.2.1.pc.key.sealed, .sl false .word 3, .sl false .bool 4, .int .i64 q.2.1.trap])), (0, some (.flat false .inst none l))], nums.tail.tail.tail.tail.tail.tail, [], false, []⟩)
    (fun q => q.2.2.length ≤ 600 ∧ LState q.2.1 2147483647 ∧ q.2.2 ++ seenGo l ((min n 600).toNat - q.2.2.length) q.2.1 = seenRun l s n) (fun q => 601 - q.2.2.length) (fun q R hI hR => ?_) (false, s, []) _ ⟨by simp, l2, by simp [seenRun]⟩ (by simp)
  obtain ⟨b, v, xs⟩ := q
  obtain ⟨hi, hl, hx⟩ := hI
  dsimp only at hi hl hx
  conv => whnf
  repeat' (first | (refine sel_i (fun h => ?_) (fun h => ?_) <;> conv => whnf) | (refine chk_c ?_ ?_ <;> conv => whnf) | (refine And.intro ?_ rfl) | (refine And.intro ?_ ?_ <;> conv => whnf))
  all_goals (try simp only [etaKey, etaWord, etaMemory, etaState, etaSeen, decide_eq_true_eq, decide_eq_false_iff_not, Bool.not_eq_true', Bool.not_eq_false', Bool.false_eq_true] at *)
  all_goals first
    | (refine ⟨?_⟩; assumption)
    | (refine ⟨?_⟩; exact ⟨by assumption, by assumption⟩)
    | (refine ⟨?_⟩; simp; omega)
    | (exact hR (true, stepS l v, xs ++ [(seenOf l v).1]) ⟨by simp; omega, stepS_len hl, seenRun_step hx (by assumption) (by assumption)⟩ (by simp; omega))
    | (rw [seenRun_end hx (by assumption)])
    | (rw [seenRun_stop hx (by assumption)])
    | trace_state
theorem ok_impl_SeenRun : FunOk Tryz.prog c_impl_SeenRun := funOk (E := [c_impl_SeenOf, c_impl_Step]) (envOk_cons ok_impl_SeenOf (envOk_cons ok_impl_Step (envOk_nil))) mixd Tryz.func10 (pf := pf_impl_SeenRun) (by kernel_rfl) fun ts K h => by
  obtain ⟨t0, t1, t2, e0, h⟩ := as3_out h
  subst e0
  obtain ⟨l, e1, hq⟩ := arC_out (rd_l .inst) h
  clear h
  subst e1
  have h := hq
  clear hq
  obtain ⟨s, e1, hq⟩ := arG_out rd_state h
  clear h
  subst e1
  have h := hq
  clear hq
  obtain ⟨n, e1, hq⟩ := arC_out (rd_int .i64) h
  clear h
  subst e1
  have h := hq
  clear hq
  obtain ⟨hpre, h⟩ := chk_o h
  exact ⟨_, _, h, Nat.le_of_ble_eq_true (show Nat.ble 3 Tryz.f10.ntmps = true by kernel_rfl), _, run_impl_SeenRun l s n hpre⟩

def lb_spec_SeenRun_0 : PC := .seq (.seq (.reg [.s (.mv 12 (.t 8)), .s (.mv 13 (.t 2)), .s (.call (some 14) 26 [(.t 13), (.k (.v (.c (.int .i64 600))))]), .s (.bin 15 .lss (.t 12) (.t 14))]) (.cond (.t 15) (.skip) (.exit 0))) (.seq (.blk 1 (.seq (.reg [.s (.mv 19 (.t 0)), .s (.load 20 true 10 (.t 4)), .s (.call (some 21) 27 [(.t 19), (.t 20)]), .s (.mv 18 (.t 21)), .s (.ext 22 (.t 18) 0), .s (.ext 23 (.t 18) 1), .s (.alloc 9 [.int .i64 0, .int .i64 0, .int .i64 0, .int .i64 0]), .s (.store 4 (.t 9) (.t 22)), .s (.mv 10 (.t 23))]) (.seq (.seq (.reg [.s (.mv 24 (.t 10)), .s (.bnot 25 (.t 24))]) (.cond (.t 25) (.seq (.reg [.s (.mv 26 (.t 7)), .s (.mv 6 (.t 26))]) (.ret)) (.skip))) (.seq (.reg [.s (.mv 27 (.t 7)), .s (.load 28 true 4 (.t 9)), .s (.bs 29 .seen [(.t 28)]), .s (.app 30 .seen (.t 27) (.t 29)), .s (.mv 7 (.t 30))]) (.reg [.s (.mv 31 (.t 0)), .s (.load 32 true 10 (.t 4)), .s (.call (some 33) 28 [(.t 31), (.t 32)]), .s (.store 10 (.t 4) (.t 33))]))))) (.reg [.s (.mv 16 (.t 8)), .s (.bin 17 .add (.t 16) (.k (.v (.c (.int .i64 1))))), .s (.mv 8 (.t 17))]))
def pf_spec_SeenRun : PF := ⟨[.t 6], .seq (.reg [.s (.box 4 (.t 1)), .s (.mv 6 (.k (.v (.c (.nils .seen)))))]) (.seq (.reg [.s (.bs 11 .seen []), .s (.mv 7 (.t 11))]) (.seq (.seq (.reg [.s (.mv 8 (.k (.v (.c (.int .i64 0)))))]) (.blk 0 (.loop [0, 2, 4, 7, 8] lb_spec_SeenRun_0))) (.seq (.reg [.s (.mv 34 (.t 7)), .s (.mv 6 (.t 34))]) (.ret))))⟩
def c_spec_SeenRun : Fun := ⟨7, [], fun ts K => as3 ts fun t0 t1 t2 => arC (pL .inst) t0 fun l => arG pStateT t1 fun s => arC (pI .i64) t2 fun n => chk (l.length ≤ 2147483647 ∧ LState s 2147483647) (K (tL true .seen (seenRun l s n)) [])⟩
theorem run_spec_SeenRun (l : List (FT.Ty .inst)) (s : State) (n : Int) (hpre : l.length ≤ 2147483647 ∧ LState s 2147483647) : runK [c_spec_l1Min, c_spec_SeenOf, c_spec_Step] (602) [] pf_spec_SeenRun [tL false .inst l, tG (s.tc false []), tI .i64 n] fun r o => r = tL true .seen (seenRun l s n) ∧ o = [] := by
  obtain ⟨l1, l2⟩ := hpre
  conv => whnf
  refine loop (α := Bool × State × List Seen) (fun q => ⟨[(0, .v (.c (.sl false .inst 0))), (2, .v (.c (.int .i64 n))), (4, .v (.c (.ptr 1 0))), (7, .v (.c (.sl true .seen 5))), (8, .v (.c (.int .i64 (q.2.2.length : Int))))],
        [(5, some (.flat true .seen none q.2.2)), (4, some (.flat q.1 .bool none q.2.1.mem.gone)), (3, some (.flat q.1 .word none q.2.1.mem.words)), (2, some (.flat q.1 .word none q.2.1.regs)), (1, some (.box true [.sl false .word 2, .int .i64 q.2.1.pc.n, .bool q.2.1.pc.is, .int .i64 q.2.1.pc.key.base, .int .i64 q.2.1.pc.key.top, .int .i64 q.2.1.pc.key.perms, .int .i64 q.2.1.pc.key.sealed, .sl false .word 3, .sl false .bool 4, .int .i64 q.2.1.trap])), (0, some (.flat false .inst none l))], nums.tail.tail.tail.tail.tail.tail, [], false, []⟩)
    (fun q => q.2.2.length ≤ 600 ∧ LState q.2.1 2147483647 ∧ q.2.2 ++ seenGo l ((min n 600).toNat - q.2.2.length) q.2.1 = seenRun l s n) (fun q => 601 - q.2.2.length) (fun q R hI hR => ?_) (false, s, []) _ ⟨by simp, l2, by simp [seenRun]⟩ (by simp)
  obtain ⟨b, v, xs⟩ := q
  obtain ⟨hi, hl, hx⟩ := hI
  dsimp only at hi hl hx
  conv => whnf
  repeat' (first | (refine sel_i (fun h => ?_) (fun h => ?_) <;> conv => whnf) | (refine chk_c ?_ ?_ <;> conv => whnf) | (refine And.intro ?_ rfl) | (refine And.intro ?_ ?_ <;> conv => whnf))
  all_goals (try simp only [etaKey, etaWord, etaMemory, etaState, etaSeen, decide_eq_true_eq, decide_eq_false_iff_not, Bool.not_eq_true', Bool.not_eq_false', Bool.false_eq_true] at *)
  all_goals first
    | (refine ⟨?_⟩; assumption)
    | (refine ⟨?_⟩; exact ⟨by assumption, by assumption⟩)
    | (refine ⟨?_⟩; simp; omega)
    | (rw [wrap_id (n := (xs.length : Int) + 1) (by omega) (by omega)]
       have e : ((xs.length : Int) + 1) = ((xs ++ [(seenOf l v).1]).length : Int) := by simp
       rw [e]
       exact hR (true, stepS l v, xs ++ [(seenOf l v).1]) ⟨by simp; omega, stepS_len hl, seenRun_step hx (by assumption) (by assumption)⟩ (by simp; omega))
    | (rw [seenRun_end hx (by assumption)])
    | (rw [seenRun_stop hx (by assumption)])
    | trace_state
theorem ok_spec_SeenRun : FunOk Tryz.prog c_spec_SeenRun := funOk (E := [c_spec_l1Min, c_spec_SeenOf, c_spec_Step]) (envOk_cons ok_spec_l1Min (envOk_cons ok_spec_SeenOf (envOk_cons ok_spec_Step (envOk_nil)))) mixd Tryz.func7 (pf := pf_spec_SeenRun) (by kernel_rfl) fun ts K h => by
  obtain ⟨t0, t1, t2, e0, h⟩ := as3_out h
  subst e0
  obtain ⟨l, e1, hq⟩ := arC_out (rd_l .inst) h
  clear h
  subst e1
  have h := hq
  clear hq
  obtain ⟨s, e1, hq⟩ := arG_out rd_state h
  clear h
  subst e1
  have h := hq
  clear hq
  obtain ⟨n, e1, hq⟩ := arC_out (rd_int .i64) h
  clear h
  subst e1
  have h := hq
  clear hq
  obtain ⟨hpre, h⟩ := chk_o h
  exact ⟨_, _, h, Nat.le_of_ble_eq_true (show Nat.ble 3 Tryz.f7.ntmps = true by kernel_rfl), _, run_spec_SeenRun l s n hpre⟩
end Go.Pi
