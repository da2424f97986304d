/- Contracts of functions, each out of its run by PI. No conditions. -/
import Derived.Test.YtlbfghplkadacaaGreatDoorC4
namespace Go.Pi
open Go.Proofs
set_option linter.unusedVariables false
set_option linter.unusedSimpArgs false
set_option maxRecDepth 100000
attribute [local irreducible] iterN
theorem kMem {K : Tree → List Tree → Prop} {o : List Tree} {P : Mem → Prop} (hK : ∀ w : Mem, P w → K (tG (w.tc true [])) o) (a : List Word) (b : List Bool) (h : P ⟨a, b⟩) : K (.v (.g [.ow .word a, .ow .bool b])) o := hK ⟨a, b⟩ h
def cuC (d : Cur) (k : Nat) : List Cell := [.sl false (.int .u8) k, .int .i64 d.i, .int .i64 d.h]
theorem memoryOk_setW {m : Mem} (h : memoryOk m = true) {i : Nat} {w : Word} (hw : wordOk w = true) : memoryOk ⟨m.words.set i w, m.gone⟩ = true := by
  obtain ⟨h1, h2, h3⟩ := memoryOk_iff.1 h
  refine memoryOk_iff.2 ⟨by simp [h1], h2, fun v hv => ?_⟩
  rcases mem_set hv with q | q
  · exact h3 v q
  · rw [q]; exact hw
theorem memoryOk_setG {m : Mem} (h : memoryOk m = true) {i : Nat} {b : Bool} : memoryOk ⟨m.words, m.gone.set i b⟩ = true := by
  obtain ⟨h1, h2, h3⟩ := memoryOk_iff.1 h
  exact memoryOk_iff.2 ⟨h1, by simp [h2], h3⟩
theorem memNew_ok : memoryOk memNew = true := by decide +kernel
theorem stateNew_ok : stateOk stateNew = true := by decide +kernel
theorem lMem_of {m : Mem} (h : memoryOk m = true) : LMem m 24 := by
  obtain ⟨h1, h2, h3⟩ := memoryOk_iff.1 h
  exact ⟨by omega, by omega⟩

def lb_spec_l8DrawRight_0 : PC := .seq (.seq (.reg [.s (.mv 7 (.t 4)), .s (.mv 8 (.t 0)), .s (.call (some 9) 26 [(.t 8), (.k (.v (.c (.int .i64 12))))]), .s (.bin 10 .lss (.t 7) (.t 9))]) (.cond (.t 10) (.skip) (.exit 0))) (.seq (.blk 1 (.rgd [0] [.s (.fa 13 (.t 3) 0), .s (.load 14 false 1 (.t 13)), .s (.mv 15 (.t 0)), .s (.call (some 16) 26 [(.t 15), (.k (.v (.c (.int .i64 24))))]), .s (.mv 17 (.t 0)), .s (.call (some 18) 68 [(.t 17)]), .s (.ia 19 .word (.t 14) (.t 16)), .s (.store 6 (.t 19) (.t 18))] (.tk 0 (.tk 1 (.tk 2 (.tk 4 (.one 3 false (.one 5 false (.tk 6 (.one 7 true (.done none))))))))))) (.reg [.s (.mv 11 (.t 4)), .s (.bin 12 .add (.t 11) (.k (.v (.c (.int .i64 1))))), .s (.mv 4 (.t 12))]))
def lb_spec_l8DrawRight_1 : PC := .seq (.seq (.reg [.s (.mv 20 (.t 5)), .s (.mv 21 (.t 0)), .s (.call (some 22) 26 [(.t 21), (.k (.v (.c (.int .i64 4))))]), .s (.bin 23 .lss (.t 20) (.t 22))]) (.cond (.t 23) (.skip) (.exit 2))) (.seq (.blk 3 (.rgd [0] [.s (.fa 26 (.t 3) 1), .s (.load 27 false 1 (.t 26)), .s (.mv 28 (.t 0)), .s (.call (some 29) 26 [(.t 28), (.k (.v (.c (.int .i64 24))))]), .s (.ia 30 .bool (.t 27) (.t 29)), .s (.store 1 (.t 30) (.k (.v (.c .tt))))] (.tk 0 (.tk 1 (.tk 2 (.one 3 false (.tk 4 (.one 5 true (.done none))))))))) (.reg [.s (.mv 24 (.t 5)), .s (.bin 25 .add (.t 24) (.k (.v (.c (.int .i64 1))))), .s (.mv 5 (.t 25))]))
def pf_spec_l8DrawRight : PF := ⟨[.c 2 true 2], .seq (.reg [.s (.alloc 2 [.nils .word, .nils .bool])]) (.seq (.reg [.s (.call (some 6) 102 []), .s (.alloc 3 [.nils .word, .nils .bool]), .s (.store 2 (.t 3) (.t 6))]) (.seq (.seq (.reg [.s (.mv 4 (.k (.v (.c (.int .i64 0)))))]) (.blk 0 (.loop [0, 2, 3, 4] lb_spec_l8DrawRight_0))) (.seq (.seq (.reg [.s (.mv 5 (.k (.v (.c (.int .i64 0)))))]) (.blk 2 (.loop [0, 2, 3, 5] lb_spec_l8DrawRight_1))) (.seq (.reg [.s (.load 31 true 2 (.t 3)), .s (.store 2 (.t 2) (.t 31))]) (.ret)))))⟩
def c_spec_l8DrawRight : Fun := ⟨67, [true], fun ts K => as1 ts fun t0 => arQ pCurT t0 fun c => chk (CurOk c) (∀ (m : Mem) (d : Cur), (memoryOk m = true ∧ CurOk d) → K (tG (m.tc true [])) ([curOut d]))⟩
theorem run_spec_l8DrawRight (c : Cur) (hpre : CurOk c) {K : Tree → List Tree → Prop} (hK : ∀ (m : Mem) (d : Cur), (memoryOk m = true ∧ CurOk d) → K (tG (m.tc true [])) ([curOut d])) : runK [c_spec_l1Below, c_spec_l3DrawRight, c_spec_MemoryNew] (20) [true] pf_spec_l8DrawRight [.v (.ptr true 0 (c.tc []))] K := by
  conv => whnf
  refine loop (α := Nat × Cur × Mem) (fun q => ⟨[(0, .v (.c (.ptr 0 0))), (2, .v (.c (.ptr 2 0))), (3, .v (.c (.ptr 3 0))), (4, .v (.c (.int .i64 (q.1 : Int))))],
        [(5, some (.flat true .bool none q.2.2.gone)), (4, some (.flat true .word none q.2.2.words)), (3, some (.box true [.sl false .word 4, .sl false .bool 5])), (2, some (.box true [.nils .word, .nils .bool])), (1, some (.flat false (.int .u8) none q.2.1.b)), (0, some (.box true (cuC q.2.1 1)))], nums.tail.tail.tail.tail.tail.tail, [.v (.c (.ptr 0 0))], false, []⟩)
    (fun q => q.1 ≤ 12 ∧ CurOk q.2.1 ∧ memoryOk q.2.2 = true) (fun q => 12 - q.1) (fun q R hI hR => ?_) (0, c, memNew) _ ⟨by simp, hpre, memNew_ok⟩ (by simp)
  obtain ⟨i, e, m⟩ := q
  obtain ⟨hi, he, hm⟩ := hI
  dsimp only at hi he hm
  dsimp only
  have hl := memoryOk_iff.1 hm
  conv => whnf
  repeat' (first | (refine sel_i (fun h => ?_) (fun h => ?_) <;> conv => whnf) | (refine chk_c ?_ ?_ <;> conv => whnf) | (refine And.intro ?_ rfl) | (refine And.intro ?_ ?_ <;> conv => whnf) | (intro x y z d hd; (try have g1 := And.left hd); (try have g2 := And.right hd); (try have g3 := And.left (And.right hd)); (try have g4 := And.right (And.right hd)); conv => whnf) | (intro x y d hd; (try have g1 := And.left hd); (try have g2 := And.right hd); (try have g3 := And.left (And.right hd)); (try have g4 := And.right (And.right hd)); conv => whnf) | (intro x d hd; (try have g1 := And.left hd); (try have g2 := And.right hd); (try have g3 := And.left (And.right hd)); (try have g4 := And.right (And.right hd)); conv => whnf) | (intro d hd; (try have g1 := And.left hd); (try have g2 := And.right hd); (try have g3 := And.left (And.right hd)); (try have g4 := And.right (And.right hd)); conv => whnf))
  all_goals first
    | (refine ⟨?_⟩; exact he)
    | (refine ⟨?_⟩; exact hd.2)
    | (refine ⟨?_⟩; simp at *; omega)
    | (rw [wrap_id (n := (i : Int) + 1) (by omega) (by omega)]; exact hR (i + 1, _, ⟨_, _⟩) ⟨by simp at h ⊢; omega, by exact hd.2, memoryOk_setW hm hd.1⟩ (by simp at h ⊢; omega))
    | skip
  clear hR he hl hi
  refine loop (α := Nat × Cur × Mem) (fun q => ⟨[(0, .v (.c (.ptr 0 0))), (2, .v (.c (.ptr 2 0))), (3, .v (.c (.ptr 3 0))), (5, .v (.c (.int .i64 (q.1 : Int))))],
        [(5, some (.flat true .bool none q.2.2.gone)), (4, some (.flat true .word none q.2.2.words)), (3, some (.box true [.sl false .word 4, .sl false .bool 5])), (2, some (.box true [.nils .word, .nils .bool])), (1, some (.flat false (.int .u8) none q.2.1.b)), (0, some (.box true (cuC q.2.1 1)))], nums.tail.tail.tail.tail.tail.tail, [.v (.c (.ptr 0 0))], false, []⟩)
    (fun q => q.1 ≤ 12 ∧ CurOk q.2.1 ∧ memoryOk q.2.2 = true) (fun q => 12 - q.1) (fun q R hI hR => ?_) (0, d, m) _ ⟨by simp, hd.2, hm⟩ (by simp)
  obtain ⟨i, e, m⟩ := q
  obtain ⟨hi, he, hm⟩ := hI
  dsimp only at hi he hm
  dsimp only
  have hl := memoryOk_iff.1 hm
  conv => whnf
  repeat' (first | (refine sel_i (fun h => ?_) (fun h => ?_) <;> conv => whnf) | (refine chk_c ?_ ?_ <;> conv => whnf) | (refine And.intro ?_ rfl) | (refine And.intro ?_ ?_ <;> conv => whnf) | (intro x y z d hd; (try have g1 := And.left hd); (try have g2 := And.right hd); (try have g3 := And.left (And.right hd)); (try have g4 := And.right (And.right hd)); conv => whnf) | (intro x y d hd; (try have g1 := And.left hd); (try have g2 := And.right hd); (try have g3 := And.left (And.right hd)); (try have g4 := And.right (And.right hd)); conv => whnf) | (intro x d hd; (try have g1 := And.left hd); (try have g2 := And.right hd); (try have g3 := And.left (And.right hd)); (try have g4 := And.right (And.right hd)); conv => whnf) | (intro d hd; (try have g1 := And.left hd); (try have g2 := And.right hd); (try have g3 := And.left (And.right hd)); (try have g4 := And.right (And.right hd)); conv => whnf))
  all_goals first
    | (refine ⟨?_⟩; exact he)
    | (refine ⟨?_⟩; exact hd.2)
    | (refine ⟨?_⟩; simp at *; omega)
    | (rw [wrap_id (n := (i : Int) + 1) (by omega) (by omega)]; have h := of_decide_eq_true h; exact hR (i + 1, d, ⟨m.words, m.gone.set x.toNat true⟩) ⟨by dsimp only; omega, hd.2, memoryOk_setG hm⟩ (by dsimp only; omega))
    | (exact kMem (fun m hm => hK m _ hm) _ _ ⟨hm, hd.2⟩)
    | trace_state
theorem ok_spec_l8DrawRight : FunOk Tryz.prog c_spec_l8DrawRight := funOkR (E := [c_spec_l1Below, c_spec_l3DrawRight, c_spec_MemoryNew]) (envOk_cons ok_spec_l1Below (envOk_cons ok_spec_l3DrawRight (envOk_cons ok_spec_MemoryNew (envOk_nil)))) mixd Tryz.func67 (pf := pf_spec_l8DrawRight) (by kernel_rfl) fun ts K h => by
  obtain ⟨t0, e0, h⟩ := as1_out h
  subst e0
  obtain ⟨c, e1, hq⟩ := arQ_out rd_cur h
  clear h
  subst e1
  have h := hq
  clear hq
  obtain ⟨hpre, h⟩ := chk_o h
  exact ⟨Nat.le_of_ble_eq_true (show Nat.ble 1 Tryz.f67.ntmps = true by kernel_rfl), _, run_spec_l8DrawRight c hpre h⟩

def pf_spec_l8Draw : PF := ⟨[.c 2 true 2], .seq (.reg [.s (.alloc 2 [.nils .word, .nils .bool])]) (.seq (.reg [.s (.mv 4 (.t 0)), .s (.call (some 5) 67 [(.t 4)]), .s (.alloc 3 [.nils .word, .nils .bool]), .s (.store 2 (.t 3) (.t 5))]) (.seq (.seq (.reg [.s (.mv 6 (.t 0)), .s (.call (some 7) 26 [(.t 6), (.k (.v (.c (.int .i64 15))))])]) (.blk 0 (.seq (.reg [.s (.bin 9 .eql (.t 7) (.k (.v (.c (.int .i64 0))))), .s (.mv 8 (.t 9))]) (.cond (.t 8) (.reg [.s (.fa 10 (.t 3) 0), .s (.load 11 false 1 (.t 10)), .s (.slc 12 .word (.t 11) (some (.k (.v (.c (.int .i64 1))))) none), .s (.fa 13 (.t 3) 0), .s (.store 1 (.t 13) (.t 12))]) (.seq (.reg [.s (.bin 15 .eql (.t 7) (.k (.v (.c (.int .i64 1))))), .s (.mv 14 (.t 15))]) (.cond (.t 14) (.rgd [0] [.s (.fa 16 (.t 3) 0), .s (.load 17 false 1 (.t 16)), .s (.mv 18 (.t 0)), .s (.call (some 19) 26 [(.t 18), (.k (.v (.c (.int .i64 24))))]), .s (.mv 20 (.t 0)), .s (.call (some 21) 40 [(.t 20)]), .s (.ia 22 .word (.t 17) (.t 19)), .s (.store 6 (.t 22) (.t 21))] (.tk 0 (.tk 1 (.tk 2 (.tk 4 (.one 3 false (.one 5 false (.tk 6 (.one 7 true (.done none)))))))))) (.seq (.reg [.s (.bin 24 .eql (.t 7) (.k (.v (.c (.int .i64 2))))), .s (.mv 23 (.t 24))]) (.cond (.t 23) (.reg [.s (.fa 25 (.t 3) 1), .s (.store 1 (.t 25) (.k (.v (.c (.nils .bool)))))]) (.skip))))))))) (.seq (.reg [.s (.load 26 true 2 (.t 3)), .s (.store 2 (.t 2) (.t 26))]) (.ret))))⟩
def c_spec_l8Draw : Fun := ⟨41, [true], fun ts K => as1 ts fun t0 => arQ pCurT t0 fun c => chk (CurOk c) (∀ (m : Mem) (d : Cur), (LMem m 24 ∧ CurOk d) → K (tG (m.tc true [])) ([curOut d]))⟩
theorem run_spec_l8Draw (c : Cur) (hpre : CurOk c) {K : Tree → List Tree → Prop} (hK : ∀ (m : Mem) (d : Cur), (LMem m 24 ∧ CurOk d) → K (tG (m.tc true [])) ([curOut d])) : runK [c_spec_l1Below, c_spec_l3Draw, c_spec_l8DrawRight] (0) [true] pf_spec_l8Draw [.v (.ptr true 0 (c.tc []))] K := by
  conv => whnf
  repeat' (first | (refine sel_i (fun h => ?_) (fun h => ?_) <;> conv => whnf) | (refine chk_c ?_ ?_ <;> conv => whnf) | (refine And.intro ?_ rfl) | (refine And.intro ?_ ?_ <;> conv => whnf) | (intro x y z d hd; (try have g1 := And.left hd); (try have g2 := And.right hd); (try have g3 := And.left (And.right hd)); (try have g4 := And.right (And.right hd)); conv => whnf) | (intro x y d hd; (try have g1 := And.left hd); (try have g2 := And.right hd); (try have g3 := And.left (And.right hd)); (try have g4 := And.right (And.right hd)); conv => whnf) | (intro x d hd; (try have g1 := And.left hd); (try have g2 := And.right hd); (try have g3 := And.left (And.right hd)); (try have g4 := And.right (And.right hd)); conv => whnf) | (intro d hd; (try have g1 := And.left hd); (try have g2 := And.right hd); (try have g3 := And.left (And.right hd)); (try have g4 := And.right (And.right hd)); conv => whnf))
  all_goals first
    | (refine ⟨?_⟩; exact hd)
    | (refine ⟨?_⟩; exact hd.2)
    | (refine ⟨?_⟩; exact hd.2.2)
    | (refine ⟨?_⟩; exact hpre)
    | (refine ⟨?_⟩; exact ⟨hd, by simp⟩)
    | (refine ⟨?_⟩; exact ⟨hd.2, by simp⟩)
    | (refine ⟨?_⟩; decide)
    | (refine ⟨?_⟩; rfl)
    | (refine ⟨?_⟩; have := memoryOk_iff.1 (by assumption); simp at *; omega)
    | (exact kMem (fun m hm => hK m _ hm) _ _ ⟨lMem_of (by assumption), hd.2⟩)
    | (have hl := lMem_of (by assumption); exact kMem (fun m hm => hK m _ hm) _ _ ⟨⟨hl.1, Nat.zero_le _⟩, hd.2⟩)
    | (have hl := memoryOk_iff.1 (by assumption); exact kMem (fun m hm => hK m _ hm) _ _ ⟨⟨by simp [win]; omega, by dsimp only; omega⟩, hd.2⟩)
    | (have hl := memoryOk_iff.1 (by assumption); exact kMem (fun m hm => hK m _ hm) _ _ ⟨⟨by simp; omega, by dsimp only; omega⟩, hd⟩)
    | trace_state
theorem ok_spec_l8Draw : FunOk Tryz.prog c_spec_l8Draw := funOkR (E := [c_spec_l1Below, c_spec_l3Draw, c_spec_l8DrawRight]) (envOk_cons ok_spec_l1Below (envOk_cons ok_spec_l3Draw (envOk_cons ok_spec_l8DrawRight (envOk_nil)))) mixd Tryz.func41 (pf := pf_spec_l8Draw) (by kernel_rfl) fun ts K h => by
  obtain ⟨t0, e0, h⟩ := as1_out h
  subst e0
  obtain ⟨c, e1, hq⟩ := arQ_out rd_cur h
  clear h
  subst e1
  have h := hq
  clear hq
  obtain ⟨hpre, h⟩ := chk_o h
  exact ⟨Nat.le_of_ble_eq_true (show Nat.ble 1 Tryz.f41.ntmps = true by kernel_rfl), _, run_spec_l8Draw c hpre h⟩

theorem stateOk_setR {s : State} (h : stateOk s = true) {i : Nat} {w : Word} (hw : wordOk w = true) {m : Mem} (hm : memoryOk m = true) : stateOk ⟨s.regs.set i w, s.pc, m, s.trap⟩ = true := by
  obtain ⟨r1, r2, r3, r4, r5, r6⟩ := stateOk_iff.1 h
  refine stateOk_iff.2 ⟨by simp [r1], fun v hv => ?_, r3, hm, r5, r6⟩
  rcases mem_set hv with q | q
  · exact r2 v q
  · rw [q]; exact hw
theorem snN : stateNew.regs.length = 8 := rfl

def lb_spec_l9DrawState_0 : PC := .seq (.seq (.reg [.s (.mv 27 (.t 7)), .s (.mv 28 (.t 6)), .s (.bin 29 .lss (.t 27) (.t 28))]) (.cond (.t 29) (.skip) (.exit 0))) (.seq (.blk 1 (.seq (.reg [.s (.mv 32 (.t 4)), .s (.load 33 true 10 (.t 5)), .s (.call (some 34) 25 [(.t 32), (.t 33)]), .s (.alloc 8 [.nils .word, .int .i64 0, .ff, .int .i64 0, .int .i64 0, .int .i64 0, .int .i64 0, .nils .word, .nils .bool, .int .i64 0]), .s (.store 10 (.t 8) (.t 34))]) (.seq (.reg [.s (.fa 35 (.t 8) 9), .s (.load 36 false 1 (.t 35)), .s (.bin 37 .eql (.t 36) (.k (.v (.c (.int .i64 0)))))]) (.cond (.t 37) (.reg [.s (.load 38 true 10 (.t 8)), .s (.store 10 (.t 5) (.t 38))]) (.skip))))) (.reg [.s (.mv 30 (.t 7)), .s (.bin 31 .add (.t 30) (.k (.v (.c (.int .i64 1))))), .s (.mv 7 (.t 31))]))
def pf_spec_l9DrawState : PF := ⟨[.t 2, .c 3 true 10], .seq (.reg [.s (.mv 2 (.k (.v (.c (.nils .inst))))), .s (.alloc 3 [.nils .word, .int .i64 0, .ff, .int .i64 0, .int .i64 0, .int .i64 0, .int .i64 0, .nils .word, .nils .bool, .int .i64 0])]) (.seq (.reg [.s (.mv 9 (.t 0)), .s (.call (some 10) 64 [(.t 9)]), .s (.mv 4 (.t 10))]) (.seq (.reg [.s (.call (some 11) 65 []), .s (.alloc 5 [.nils .word, .int .i64 0, .ff, .int .i64 0, .int .i64 0, .int .i64 0, .int .i64 0, .nils .word, .nils .bool, .int .i64 0]), .s (.store 10 (.t 5) (.t 11))]) (.seq (.seq (.reg [.s (.mv 12 (.t 0)), .s (.call (some 13) 66 [(.t 12), (.k (.v (.c (.int .i64 2))))])]) (.cond (.t 13) (.seq (.reg [.s (.mv 14 (.t 0)), .s (.call (some 15) 67 [(.t 14)]), .s (.fa 16 (.t 5) 7), .s (.store 2 (.t 16) (.t 15))]) (.rgd [0] [.s (.fa 17 (.t 5) 0), .s (.load 18 false 1 (.t 17)), .s (.mv 19 (.t 0)), .s (.call (some 20) 26 [(.t 19), (.k (.v (.c (.int .i64 4))))]), .s (.bin 21 .add (.k (.v (.c (.int .i64 1)))) (.t 20)), .s (.mv 22 (.t 0)), .s (.call (some 23) 68 [(.t 22)]), .s (.ia 24 .word (.t 18) (.t 21)), .s (.store 6 (.t 24) (.t 23))] (.tk 0 (.tk 1 (.tk 2 (.tk 5 (.one 3 false (.tk 4 (.one 6 false (.tk 7 (.one 8 true (.done none)))))))))))) (.skip))) (.seq (.reg [.s (.mv 25 (.t 0)), .s (.call (some 26) 26 [(.t 25), (.k (.v (.c (.int .i64 10))))]), .s (.mv 6 (.t 26))]) (.seq (.seq (.reg [.s (.mv 7 (.k (.v (.c (.int .i64 0)))))]) (.blk 0 (.loop [3, 4, 5, 6, 7] lb_spec_l9DrawState_0))) (.seq (.rgd [] [.s (.mv 39 (.t 4)), .s (.load 40 true 10 (.t 5)), .s (.mv 2 (.t 39)), .s (.store 10 (.t 3) (.t 40))] (.tk 0 (.tk 1 (.tk 2 (.one 3 true (.done none)))))) (.ret)))))))⟩
def c_spec_l9DrawState : Fun := ⟨39, [true], fun ts K => as1 ts fun t0 => arQ pCurT t0 fun c => chk (CurOk c) (∀ (l : List Inst) (s : State) (d : Cur), ((l.length ≤ 20 ∧ 1 ≤ l.length) ∧ stateOk s = true ∧ CurOk d) → K (.tup [.c (tl true .inst l), .g (s.tc true [])]) ([curOut d]))⟩
theorem run_spec_l9DrawState (c : Cur) (hpre : CurOk c) {K : Tree → List Tree → Prop} (hK : ∀ (l : List Inst) (s : State) (d : Cur), ((l.length ≤ 20 ∧ 1 ≤ l.length) ∧ stateOk s = true ∧ CurOk d) → K (.tup [.c (tl true .inst l), .g (s.tc true [])]) ([curOut d])) : runK [c_spec_Step, c_spec_l1Below, c_spec_l6DrawCode, c_spec_StateNew, c_spec_l1Once, c_spec_l8DrawRight, c_spec_l3DrawRight] (12) [true] pf_spec_l9DrawState [.v (.ptr true 0 (c.tc []))] K := by
  conv => whnf
  repeat' (first | (refine sel_i (fun h => ?_) (fun h => ?_) <;> conv => whnf) | (refine chk_c ?_ ?_ <;> conv => whnf) | (refine And.intro ?_ rfl) | (refine And.intro ?_ ?_ <;> conv => whnf) | (intro x y z d hd; (try have g1 := And.left hd); (try have g2 := And.right hd); (try have g3 := And.left (And.right hd)); (try have g4 := And.right (And.right hd)); conv => whnf) | (intro x y d hd; (try have g1 := And.left hd); (try have g2 := And.right hd); (try have g3 := And.left (And.right hd)); (try have g4 := And.right (And.right hd)); conv => whnf) | (intro x d hd; (try have g1 := And.left hd); (try have g2 := And.right hd); (try have g3 := And.left (And.right hd)); (try have g4 := And.right (And.right hd)); conv => whnf) | (intro d hd; (try have g1 := And.left hd); (try have g2 := And.right hd); (try have g3 := And.left (And.right hd)); (try have g4 := And.right (And.right hd)); conv => whnf))
  all_goals first
    | (refine ⟨?_⟩; exact hd)
    | (refine ⟨?_⟩; exact hd.2)
    | (refine ⟨?_⟩; exact hpre)
    | (refine ⟨?_⟩; decide)
    | (refine ⟨?_⟩; rfl)
    | (refine ⟨?_⟩; exact hd.2.2)
    | (refine ⟨?_⟩; rw [snN, wrap_id (by omega) (by omega)]; omega)
    | skip
  all_goals (
    have hx := hd.1
    refine loop (α := Nat × State) (fun q => ⟨[(3, .v (.c (.ptr 2 0))), (4, .v (.c (.sl false .inst 3))), (5, .v (.c (.ptr 4 0))), (6, .v (.c (.int .i64 x))), (7, .v (.c (.int .i64 (q.1 : Int))))],
        [(7, some (.flat true .bool none q.2.mem.gone)), (6, some (.flat true .word none q.2.mem.words)), (5, some (.flat true .word none q.2.regs)), (4, some (.box true (stC q.2 5 6 7 []))), (3, some (.flat true .inst none _)), (2, some (.box true zSC)), (1, some (.flat false (.int .u8) none d.b)), (0, some (.box true (cuC d 1)))], nums.tail.tail.tail.tail.tail.tail.tail.tail, [.v (.c (.ptr 0 0))], false, []⟩)
      (fun q => (q.1 : Int) ≤ x ∧ stateOk q.2 = true) (fun q => 10 - q.1) (fun q R hI hR => ?_) (0, ⟨_, _, ⟨_, _⟩, _⟩) _ ⟨by simp; omega, by first | exact stateNew_ok | exact stateOk_setR stateNew_ok (by assumption) (by assumption)⟩ (by simp)
    obtain ⟨i, v⟩ := q
    obtain ⟨hi, hv⟩ := hI
    dsimp only at hi hv
    dsimp only
    have hlen := (stateOk_len hv).l
    conv => whnf
    repeat' (first | (refine sel_i (fun h => ?_) (fun h => ?_) <;> conv => whnf) | (refine chk_c ?_ ?_ <;> conv => whnf) | (refine And.intro ?_ rfl) | (refine And.intro ?_ ?_ <;> conv => whnf) | (intro x y z d hd; (try have g1 := And.left hd); (try have g2 := And.right hd); (try have g3 := And.left (And.right hd)); (try have g4 := And.right (And.right hd)); conv => whnf) | (intro x y d hd; (try have g1 := And.left hd); (try have g2 := And.right hd); (try have g3 := And.left (And.right hd)); (try have g4 := And.right (And.right hd)); conv => whnf) | (intro x d hd; (try have g1 := And.left hd); (try have g2 := And.right hd); (try have g3 := And.left (And.right hd)); (try have g4 := And.right (And.right hd)); conv => whnf) | (intro d hd; (try have g1 := And.left hd); (try have g2 := And.right hd); (try have g3 := And.left (And.right hd)); (try have g4 := And.right (And.right hd)); conv => whnf))
    all_goals (try simp only [etaKey, etaWord, etaMemory, etaState, decide_eq_true_eq, decide_eq_false_iff_not, beq_iff_eq] at *)
    all_goals first
      | (refine ⟨?_⟩; exact ⟨by omega, hlen⟩)
      | (rw [wrap_id (n := (i : Int) + 1) (by omega) (by omega)]; exact hR (i + 1, stepS _ v) ⟨by dsimp only; omega, stepS_ok hv⟩ (by dsimp only; omega))
      | (rw [wrap_id (n := (i : Int) + 1) (by omega) (by omega)]; exact hR (i + 1, v) ⟨by dsimp only; omega, hv⟩ (by dsimp only; omega))
      | (exact hK _ v d ⟨⟨by omega, by omega⟩, hv, hd.2⟩)
      | trace_state)
theorem ok_spec_l9DrawState : FunOk Tryz.prog c_spec_l9DrawState := funOkR (E := [c_spec_Step, c_spec_l1Below, c_spec_l6DrawCode, c_spec_StateNew, c_spec_l1Once, c_spec_l8DrawRight, c_spec_l3DrawRight]) (envOk_cons ok_spec_Step (envOk_cons ok_spec_l1Below (envOk_cons ok_spec_l6DrawCode (envOk_cons ok_spec_StateNew (envOk_cons ok_spec_l1Once (envOk_cons ok_spec_l8DrawRight (envOk_cons ok_spec_l3DrawRight (envOk_nil)))))))) mixd Tryz.func39 (pf := pf_spec_l9DrawState) (by kernel_rfl) fun ts K h => by
  obtain ⟨t0, e0, h⟩ := as1_out h
  subst e0
  obtain ⟨c, e1, hq⟩ := arQ_out rd_cur h
  clear h
  subst e1
  have h := hq
  clear hq
  obtain ⟨hpre, h⟩ := chk_o h
  exact ⟨Nat.le_of_ble_eq_true (show Nat.ble 1 Tryz.f39.ntmps = true by kernel_rfl), _, run_spec_l9DrawState c hpre h⟩

theorem U8s.app {a b : List Int} (ha : U8s a) (hb : U8s b) : U8s (a ++ b) := fun x hx => by
  rcases List.mem_append.1 hx with q | q
  · exact ha x q
  · exact hb x q
theorem U8s.put {a : List Int} (ha : U8s a) {i : Nat} {v : Int} (hv : 0 ≤ v ∧ v ≤ 255) : U8s (a.set i v) := fun x hx => by
  rcases mem_set hx with q | q
  · exact ha x q
  · rw [q]; exact hv
theorem kState {K : Tree → List Tree → Prop} {o : List Tree} {P : State → Prop} {l : List Inst} (hK : ∀ s : State, P s → K (.tup [.c (tl true .inst l), .g (s.tc true [])]) o) (a : List Word) (n : Int) (is : Bool) (e f g h : Int) (b : List Word) (c : List Bool) (t : Int) (hp : P ⟨a, ⟨n, is, ⟨e, f, g, h⟩⟩, ⟨b, c⟩, t⟩) :
    K (.tup [.c (.ow .inst l), .g [.ow .word a, .int .i64 n, .bool is, .int .i64 e, .int .i64 f, .int .i64 g, .int .i64 h, .ow .word b, .ow .bool c, .int .i64 t]]) o := hK ⟨a, ⟨n, is, ⟨e, f, g, h⟩⟩, ⟨b, c⟩, t⟩ hp

def pf_spec_l9Draw : PF := ⟨[.t 2, .c 3 true 10], .seq (.reg [.s (.mv 2 (.k (.v (.c (.nils .inst))))), .s (.alloc 3 [.nils .word, .int .i64 0, .ff, .int .i64 0, .int .i64 0, .int .i64 0, .int .i64 0, .nils .word, .nils .bool, .int .i64 0])]) (.seq (.reg [.s (.mv 7 (.t 0)), .s (.call (some 8) 39 [(.t 7)]), .s (.mv 6 (.t 8)), .s (.ext 9 (.t 6) 0), .s (.ext 10 (.t 6) 1), .s (.alloc 5 [.nils .word, .int .i64 0, .ff, .int .i64 0, .int .i64 0, .int .i64 0, .int .i64 0, .nils .word, .nils .bool, .int .i64 0]), .s (.mv 4 (.t 9)), .s (.store 10 (.t 5) (.t 10))]) (.seq (.seq (.reg [.s (.mv 11 (.t 0)), .s (.call (some 12) 26 [(.t 11), (.k (.v (.c (.int .i64 15))))])]) (.blk 0 (.seq (.reg [.s (.bin 14 .eql (.t 12) (.k (.v (.c (.int .i64 0))))), .s (.mv 13 (.t 14))]) (.cond (.t 13) (.rgd [0] [.s (.fa 15 (.t 5) 0), .s (.load 16 false 1 (.t 15)), .s (.mv 17 (.t 0)), .s (.call (some 18) 26 [(.t 17), (.k (.v (.c (.int .i64 8))))]), .s (.mv 19 (.t 0)), .s (.call (some 20) 40 [(.t 19)]), .s (.ia 21 .word (.t 16) (.t 18)), .s (.store 6 (.t 21) (.t 20))] (.tk 0 (.tk 1 (.tk 2 (.tk 4 (.one 3 false (.one 5 false (.tk 6 (.one 7 true (.done none)))))))))) (.seq (.reg [.s (.bin 23 .eql (.t 12) (.k (.v (.c (.int .i64 1))))), .s (.mv 22 (.t 23))]) (.cond (.t 22) (.reg [.s (.mv 24 (.t 0)), .s (.call (some 25) 40 [(.t 24)]), .s (.fa 26 (.t 5) 1), .s (.store 6 (.t 26) (.t 25))]) (.seq (.reg [.s (.bin 28 .eql (.t 12) (.k (.v (.c (.int .i64 2))))), .s (.mv 27 (.t 28))]) (.cond (.t 27) (.reg [.s (.mv 29 (.t 0)), .s (.call (some 30) 41 [(.t 29)]), .s (.fa 31 (.t 5) 7), .s (.store 2 (.t 31) (.t 30))]) (.seq (.reg [.s (.bin 33 .eql (.t 12) (.k (.v (.c (.int .i64 3))))), .s (.mv 32 (.t 33))]) (.cond (.t 32) (.reg [.s (.mv 34 (.t 0)), .s (.call (some 35) 26 [(.t 34), (.k (.v (.c (.int .i64 8))))]), .s (.bin 36 .sub (.t 35) (.k (.v (.c (.int .i64 1))))), .s (.fa 37 (.t 5) 9), .s (.store 1 (.t 37) (.t 36))]) (.seq (.reg [.s (.bin 39 .eql (.t 12) (.k (.v (.c (.int .i64 4))))), .s (.mv 38 (.t 39))]) (.cond (.t 38) (.reg [.s (.fa 40 (.t 5) 0), .s (.load 41 false 1 (.t 40)), .s (.slc 42 .word (.t 41) (some (.k (.v (.c (.int .i64 1))))) none), .s (.fa 43 (.t 5) 0), .s (.store 1 (.t 43) (.t 42))]) (.seq (.reg [.s (.bin 45 .eql (.t 12) (.k (.v (.c (.int .i64 5))))), .s (.mv 44 (.t 45))]) (.cond (.t 44) (.rgd [0] [.s (.mv 46 (.t 4)), .s (.mv 47 (.t 0)), .s (.mv 48 (.t 4)), .s (.len 49 false (.t 48)), .s (.call (some 50) 26 [(.t 47), (.t 49)]), .s (.mv 51 (.t 0)), .s (.mv 52 (.t 4)), .s (.ia 53 .inst (.t 52) (.k (.v (.c (.int .i64 0))))), .s (.load 54 true 5 (.t 53)), .s (.call (some 55) 42 [(.t 51), (.t 54)]), .s (.ia 56 .inst (.t 46) (.t 50)), .s (.store 5 (.t 56) (.t 55))] (.tk 0 (.tk 1 (.tk 2 (.tk 3 (.tk 5 (.tk 6 (.tk 7 (.tk 8 (.one 4 false (.one 9 true (.tk 10 (.one 11 true (.done none)))))))))))))) (.skip))))))))))))))) (.seq (.rgd [] [.s (.mv 57 (.t 4)), .s (.load 58 true 10 (.t 5)), .s (.mv 2 (.t 57)), .s (.store 10 (.t 3) (.t 58))] (.tk 0 (.tk 1 (.tk 2 (.one 3 true (.done none)))))) (.ret))))⟩
def c_spec_l9Draw : Fun := ⟨19, [true], fun ts K => as1 ts fun t0 => arQ pCurT t0 fun c => chk (CurOk c) (∀ (l : List Inst) (s : State) (d : Cur), ((l.length ≤ 20 ∧ LState s 24) ∧ CurOk d) → K (.tup [.c (tl true .inst l), .g (s.tc true [])]) ([curOut d]))⟩
theorem run_spec_l9Draw (c : Cur) (hpre : CurOk c) {K : Tree → List Tree → Prop} (hK : ∀ (l : List Inst) (s : State) (d : Cur), ((l.length ≤ 20 ∧ LState s 24) ∧ CurOk d) → K (.tup [.c (tl true .inst l), .g (s.tc true [])]) ([curOut d])) : runK [c_spec_l1Below, c_spec_l9DrawState, c_spec_l3Draw, c_spec_l8Draw, c_spec_l6Spoil] (0) [true] pf_spec_l9Draw [.v (.ptr true 0 (c.tc []))] K := by
  conv => whnf
  repeat' (first | (refine sel_i (fun h => ?_) (fun h => ?_) <;> conv => whnf) | (refine chk_c ?_ ?_ <;> conv => whnf) | (refine And.intro ?_ rfl) | (refine And.intro ?_ ?_ <;> conv => whnf) | (intro x y z d hd; (try have g1 := And.left hd); (try have g2 := And.right hd); (try have g3 := And.left (And.right hd)); (try have g4 := And.right (And.right hd)); conv => whnf) | (intro x y d hd; (try have g1 := And.left hd); (try have g2 := And.right hd); (try have g3 := And.left (And.right hd)); (try have g4 := And.right (And.right hd)); conv => whnf) | (intro x d hd; (try have g1 := And.left hd); (try have g2 := And.right hd); (try have g3 := And.left (And.right hd)); (try have g4 := And.right (And.right hd)); conv => whnf) | (intro d hd; (try have g1 := And.left hd); (try have g2 := And.right hd); (try have g3 := And.left (And.right hd)); (try have g4 := And.right (And.right hd)); conv => whnf))
  all_goals first
    | (refine ⟨?_⟩; exact hd)
    | (refine ⟨?_⟩; exact hd.2)
    | (refine ⟨?_⟩; exact hd.2.2)
    | (refine ⟨?_⟩; exact hpre)
    | (refine ⟨?_⟩; exact ⟨hd, by simp⟩)
    | (refine ⟨?_⟩; exact ⟨hd.2, by simp⟩)
    | (refine ⟨?_⟩; exact ⟨hd.2.2, by simp⟩)
    | (refine ⟨?_⟩; decide)
    | (refine ⟨?_⟩; rfl)
    | (refine ⟨?_⟩; obtain ⟨hl1, hl2, hl3⟩ := stateOk_len (s := y) (by assumption); omega)
    | (have hm : LMem x 24 := (by assumption); obtain ⟨hl1, hl2, hl3⟩ := stateOk_len (s := y) (by assumption); refine kState (fun s hs => hK _ s _ hs) _ _ _ _ _ _ _ _ _ _ ⟨⟨?_, ?_, ?_, ?_⟩, ?_⟩ <;> first | exact hm.1 | exact hm.2 | exact hd | exact hd.2 | exact hd.2.2 | omega | (simp; omega))
    | (obtain ⟨hl1, hl2, hl3⟩ := stateOk_len (s := y) (by assumption); exact kState (fun s hs => hK _ s _ hs) _ _ _ _ _ _ _ _ _ _ ⟨⟨by first | omega | (simp; omega), by refine ⟨?_, ?_, ?_⟩ <;> first | omega | (simp; omega) | (simp [win]; omega)⟩, by first | exact hd | exact hd.2 | exact hd.2.2⟩)
    | trace_state
theorem ok_spec_l9Draw : FunOk Tryz.prog c_spec_l9Draw := funOkR (E := [c_spec_l1Below, c_spec_l9DrawState, c_spec_l3Draw, c_spec_l8Draw, c_spec_l6Spoil]) (envOk_cons ok_spec_l1Below (envOk_cons ok_spec_l9DrawState (envOk_cons ok_spec_l3Draw (envOk_cons ok_spec_l8Draw (envOk_cons ok_spec_l6Spoil (envOk_nil)))))) mixd Tryz.func19 (pf := pf_spec_l9Draw) (by kernel_rfl) fun ts K h => by
  obtain ⟨t0, e0, h⟩ := as1_out h
  subst e0
  obtain ⟨c, e1, hq⟩ := arQ_out rd_cur h
  clear h
  subst e1
  have h := hq
  clear hq
  obtain ⟨hpre, h⟩ := chk_o h
  exact ⟨Nat.le_of_ble_eq_true (show Nat.ble 1 Tryz.f19.ntmps = true by kernel_rfl), _, run_spec_l9Draw c hpre h⟩

theorem eq_end {α : Type} [DecidableEq α] {xs ys : List α} {i : Nat} (hl : xs.length = ys.length) (h : xs.length ≤ i) (he : xs.take i = ys.take i) : decide (xs = ys) = true := by
  rw [List.take_of_length_le h, List.take_of_length_le (by omega)] at he
  exact decide_eq_true he
theorem eq_no {α : Type} [DecidableEq α] {xs ys : List α} {i : Nat} {z : α} (hne : ¬ xs.getD i z = ys.getD i z) : decide (xs = ys) = false :=
  decide_eq_false fun e => hne (by rw [e])
theorem eq_yes {α : Type} {xs ys : List α} {i : Nat} {z : α} (hl : xs.length = ys.length) (h : i < xs.length) (hq : xs.getD i z = ys.getD i z) (he : xs.take i = ys.take i) : xs.take (i + 1) = ys.take (i + 1) := by
  have h2 : i < ys.length := by omega
  rw [List.take_add_one, List.take_add_one, he, List.getElem?_eq_getElem h, List.getElem?_eq_getElem h2]
  rw [List.getD_eq_getElem?_getD, List.getD_eq_getElem?_getD, List.getElem?_eq_getElem h, List.getElem?_eq_getElem h2] at hq
  simp only [Option.getD_some] at hq
  rw [hq]
theorem len_ne {α : Type} [DecidableEq α] {xs ys : List α} (h : ((xs.length : Int) != (ys.length : Int)) = true) : decide (xs = ys) = false :=
  decide_eq_false fun e => by rw [e] at h; simp at h
theorem len_eq {α : Type} {xs ys : List α} (h : ((xs.length : Int) != (ys.length : Int)) = false) : xs.length = ys.length := by
  simp at h; omega
theorem eqWd {a b : Word} : (a.n == b.n && (a.is == b.is && (a.key.base == b.key.base && (a.key.top == b.key.top && (a.key.perms == b.key.perms && a.key.sealed == b.key.sealed))))) = decide (a = b) := by
  obtain ⟨a1, a2, a3, a4, a5, a6⟩ := a
  obtain ⟨b1, b2, b3, b4, b5, b6⟩ := b
  rw [Bool.eq_iff_iff]
  simp
def lb_laws_hasInt_0 : PC := .seq (.seq (.reg [.s (.mv 6 (.t 5)), .s (.mv 7 (.t 0)), .s (.len 8 false (.t 7)), .s (.bin 9 .lss (.t 6) (.t 8))]) (.cond (.t 9) (.skip) (.exit 0))) (.seq (.blk 1 (.seq (.reg [.s (.mv 12 (.t 0)), .s (.mv 13 (.t 5)), .s (.ia 14 (.int .i64) (.t 12) (.t 13)), .s (.load 15 false 1 (.t 14)), .s (.mv 16 (.t 1)), .s (.bin 17 .eql (.t 15) (.t 16))]) (.cond (.t 17) (.seq (.reg [.s (.mv 4 (.k (.v (.c .tt))))]) (.ret)) (.skip)))) (.reg [.s (.mv 10 (.t 5)), .s (.bin 11 .add (.t 10) (.k (.v (.c (.int .i64 1))))), .s (.mv 5 (.t 11))]))
def pf_laws_hasInt : PF := ⟨[.t 4], .seq (.reg [.s (.mv 4 (.k (.v (.c .ff))))]) (.seq (.seq (.reg [.s (.mv 5 (.k (.v (.c (.int .i64 0)))))]) (.blk 0 (.loop [0, 1, 5] lb_laws_hasInt_0))) (.seq (.reg [.s (.mv 4 (.k (.v (.c .ff))))]) (.ret)))⟩
def c_laws_hasInt : Fun := ⟨17, [], fun ts K => as2 ts fun t0 t1 => arC (pL (.int .i64)) t0 fun l => arC (pI .i64) t1 fun x => chk (l.length ≤ 2147483647) (K (tB (l.any (fun v => v == x))) [])⟩
theorem run_laws_hasInt (l : List (FT.Ty (.int .i64))) (x : Int) (hpre : l.length ≤ 2147483647) : runK [] (l.length + 1) [] pf_laws_hasInt [tL false (.int .i64) l, tI .i64 x] fun r o => r = tB (l.any (fun v => v == x)) ∧ o = [] := by
  conv => whnf
  refine loop (α := Nat) (fun i => ⟨[(0, .v (.c (.sl false (.int .i64) 0))), (1, .v (.c (.int .i64 x))), (5, .v (.c (.int .i64 (i : Int))))], [(0, some (.flat false (.int .i64) none l))], nums.tail, [], false, []⟩)
      (fun i => i ≤ l.length ∧ (l.drop i).any (fun v => v == x) = l.any (fun v => v == x)) (fun i => l.length - i) (fun i R hI hR => ?_) 0 _ ⟨by simp, by simp⟩ (by omega)
  obtain ⟨hi, hx⟩ := hI
  conv => whnf
  repeat' (first | (refine sel_i (fun h => ?_) (fun h => ?_) <;> conv => whnf) | (refine chk_c ?_ ?_ <;> conv => whnf) | (refine And.intro ?_ rfl) | (refine And.intro ?_ ?_ <;> conv => whnf))
  all_goals (try simp only [Int.toNat_natCast, decide_eq_true_eq, decide_eq_false_iff_not] at *)
  all_goals first
    | (refine ⟨?_⟩; omega)
    | (rw [any_yes (z := FT.zero (.int .i64)) (by omega) (by assumption) hx]; done)
    | (rw [any_end (by omega) hx]; done)
    | (rw [wrap_id (n := (i : Int) + 1) (by omega) (by omega)]; exact hR (i + 1) ⟨by omega, any_no (z := FT.zero (.int .i64)) (by omega) (by assumption) hx⟩ (by omega))
    | trace_state
theorem ok_laws_hasInt : FunOk Tryz.prog c_laws_hasInt := funOk (E := []) (envOk_nil) mixd Tryz.func17 (pf := pf_laws_hasInt) (by kernel_rfl) fun ts K h => by
  obtain ⟨t0, t1, e0, h⟩ := as2_out h
  subst e0
  obtain ⟨l, e1, hq⟩ := arC_out (rd_l (.int .i64)) h
  clear h
  subst e1
  have h := hq
  clear hq
  obtain ⟨x, e1, hq⟩ := arC_out (rd_int .i64) h
  clear h
  subst e1
  have h := hq
  clear hq
  obtain ⟨hpre, h⟩ := chk_o h
  exact ⟨_, _, h, Nat.le_of_ble_eq_true (show Nat.ble 2 Tryz.f17.ntmps = true by kernel_rfl), _, run_laws_hasInt l x hpre⟩









theorem eqId {a b : Inst} : (a.op == b.op && (a.r == b.r && (a.a == b.a && (a.b == b.b && a.n == b.n)))) = decide (a = b) := by
  obtain ⟨a1, a2, a3, a4, a5⟩ := a
  obtain ⟨b1, b2, b3, b4, b5⟩ := b
  rw [Bool.eq_iff_iff]
  simp

def lb_laws_sameInts_0 : PC := .seq (.seq (.reg [.s (.mv 11 (.t 5)), .s (.mv 12 (.t 0)), .s (.len 13 false (.t 12)), .s (.bin 14 .lss (.t 11) (.t 13))]) (.cond (.t 14) (.skip) (.exit 0))) (.seq (.blk 1 (.seq (.rgd [] [.s (.mv 17 (.t 0)), .s (.mv 18 (.t 5)), .s (.ia 19 (.int .i64) (.t 17) (.t 18)), .s (.load 20 false 1 (.t 19)), .s (.mv 21 (.t 1)), .s (.mv 22 (.t 5)), .s (.ia 23 (.int .i64) (.t 21) (.t 22)), .s (.load 24 false 1 (.t 23)), .s (.bin 25 .neq (.t 20) (.t 24))] (.tk 0 (.tk 1 (.tk 2 (.tk 3 (.tk 4 (.tk 5 (.tk 6 (.tk 7 (.tk 8 (.done none))))))))))) (.cond (.t 25) (.seq (.reg [.s (.mv 4 (.k (.v (.c .ff))))]) (.ret)) (.skip)))) (.reg [.s (.mv 15 (.t 5)), .s (.bin 16 .add (.t 15) (.k (.v (.c (.int .i64 1))))), .s (.mv 5 (.t 16))]))
def pf_laws_sameInts : PF := ⟨[.t 4], .seq (.reg [.s (.mv 4 (.k (.v (.c .ff))))]) (.seq (.seq (.reg [.s (.mv 6 (.t 0)), .s (.len 7 false (.t 6)), .s (.mv 8 (.t 1)), .s (.len 9 false (.t 8)), .s (.bin 10 .neq (.t 7) (.t 9))]) (.cond (.t 10) (.seq (.reg [.s (.mv 4 (.k (.v (.c .ff))))]) (.ret)) (.skip))) (.seq (.seq (.reg [.s (.mv 5 (.k (.v (.c (.int .i64 0)))))]) (.blk 0 (.loop [0, 1, 5] lb_laws_sameInts_0))) (.seq (.reg [.s (.mv 4 (.k (.v (.c .tt))))]) (.ret))))⟩
def c_laws_sameInts : Fun := ⟨10, [], fun ts K => as2 ts fun t0 t1 => arC (pL (.int .i64)) t0 fun a => arC (pL (.int .i64)) t1 fun b => chk (a.length ≤ 2147483647 ∧ b.length ≤ 2147483647) (K (tB (decide (a = b))) [])⟩
theorem run_laws_sameInts (a : List (FT.Ty (.int .i64))) (b : List (FT.Ty (.int .i64))) (hpre : a.length ≤ 2147483647 ∧ b.length ≤ 2147483647) : runK [] (a.length + 1) [] pf_laws_sameInts [tL false (.int .i64) a, tL false (.int .i64) b] fun r o => r = tB (decide (a = b)) ∧ o = [] := by
  obtain ⟨l1, l2⟩ := hpre
  conv => whnf
  refine sel_i (fun h => ?_) (fun h => ?_) <;> conv => whnf
  · rw [len_ne h]; exact ⟨rfl, rfl⟩
  have hl := len_eq h
  clear h
  refine loop (α := Nat) (fun i => ⟨[(0, .v (.c (.sl false (.int .i64) 0))), (1, .v (.c (.sl false (.int .i64) 1))), (5, .v (.c (.int .i64 (i : Int))))], [(1, some (.flat false (.int .i64) none b)), (0, some (.flat false (.int .i64) none a))], nums.tail.tail, [], false, []⟩)
      (fun i => i ≤ a.length ∧ a.take i = b.take i) (fun i => a.length - i) (fun i R hI hR => ?_) 0 _ ⟨by simp, by simp⟩ (by omega)
  obtain ⟨hi, hx⟩ := hI
  conv => whnf
  repeat' (first | (refine sel_i (fun h => ?_) (fun h => ?_) <;> conv => whnf) | (refine chk_c ?_ ?_ <;> conv => whnf) | (refine And.intro ?_ rfl) | (refine And.intro ?_ ?_ <;> conv => whnf))
  all_goals (try simp only [eqId, etaInst, Int.toNat_natCast, Bool.not_eq_true', Bool.not_eq_false', decide_eq_true_eq, decide_eq_false_iff_not, bne_iff_ne, bne_eq_false_iff_eq] at *)
  all_goals first
    | (refine ⟨?_⟩; omega)
    | (rw [eq_no (z := (FT.zero (.int .i64))) (i := i) (by first | assumption | simpa using h)]; done)
    | (rw [eq_end hl (by omega) hx]; done)
    | (rw [wrap_id (n := (i : Int) + 1) (by omega) (by omega)]; exact hR (i + 1) ⟨by omega, eq_yes (z := (FT.zero (.int .i64))) hl (by omega) (by first | assumption | simpa using h) hx⟩ (by omega))
    | trace_state
theorem ok_laws_sameInts : FunOk Tryz.prog c_laws_sameInts := funOk (E := []) (envOk_nil) mixd Tryz.func10 (pf := pf_laws_sameInts) (by kernel_rfl) fun ts K h => by
  obtain ⟨t0, t1, e0, h⟩ := as2_out h
  subst e0
  obtain ⟨a, e1, hq⟩ := arC_out (rd_l (.int .i64)) h
  clear h
  subst e1
  have h := hq
  clear hq
  obtain ⟨b, e1, hq⟩ := arC_out (rd_l (.int .i64)) h
  clear h
  subst e1
  have h := hq
  clear hq
  obtain ⟨hpre, h⟩ := chk_o h
  exact ⟨_, _, h, Nat.le_of_ble_eq_true (show Nat.ble 2 Tryz.f10.ntmps = true by kernel_rfl), _, run_laws_sameInts a b hpre⟩





/-! what the small programs do -/






theorem spanD_mem {l : List Span} {i : Nat} (h : i < l.length) : l.getD i (FT.zero .span) ∈ l := by
  rw [List.getD_eq_getElem?_getD, List.getElem?_eq_getElem h]; exact List.getElem_mem h

def Ord (l : List Span) : Prop := l.Pairwise (fun a b => a.at_ < b.at_)
theorem ord_of {l : List Span} (h : ∀ j, 0 < j → j < l.length → (l.getD (j - 1) (FT.zero .span)).at_ < (l.getD j (FT.zero .span)).at_) : Ord l := by
  have key : ∀ d i : Nat, i + d + 1 < l.length → (l.getD i (FT.zero .span)).at_ < (l.getD (i + d + 1) (FT.zero .span)).at_ := by
    intro d
    induction d with
    | zero => intro i hi; have := h (i + 1) (by omega) hi; simpa using this
    | succ d ih =>
      intro i hi
      have h1 := ih i (by omega)
      have h2 := h (i + (d + 1) + 1) (by omega) hi
      rw [show i + (d + 1) + 1 - 1 = i + d + 1 by omega] at h2
      omega
  refine List.pairwise_iff_getElem.2 fun i j hi hj hij => ?_
  have := key (j - i - 1) i (by omega)
  rw [show i + (j - i - 1) + 1 = j by omega] at this
  simpa [List.getD_eq_getElem?_getD, hi, hj] using this
theorem ord_step {l : List Span} (h : Ord l) {j : Nat} (h0 : 0 < j) (hj : j < l.length) : (l.getD (j - 1) (FT.zero .span)).at_ < (l.getD j (FT.zero .span)).at_ := by
  have := List.pairwise_iff_getElem.1 h (j - 1) j (by omega) hj (by omega)
  simpa [List.getD_eq_getElem?_getD, hj, show j - 1 < l.length by omega] using this
theorem spansOk_ord {l : List Span} : spansOk l = true ↔ (∀ s ∈ l, spanOk s = true) ∧ Ord l := by
  rw [spansOk_iff]
  constructor
  · intro h
    refine ⟨spansOk_mem (spansOk_iff.2 h), ord_of fun j h0 hj => ?_⟩
    have := ((spanChk_iff l j).1 (h j hj)).2
    omega
  · rintro ⟨h1, h2⟩ j hj
    have hs := h1 _ (spanD_mem hj)
    rw [spanChk_iff]
    simp only [spanOk, Bool.and_eq_true, inR_t] at hs
    refine ⟨hs, ?_⟩
    by_cases h0 : j = 0
    · exact .inl h0
    · exact .inr (ord_step h2 (by omega) hj)


theorem ord_ge {l : List Span} (h : spansOk l = true) : ∀ j : Nat, j < l.length → (j : Int) ≤ (l.getD j (FT.zero .span)).at_ := by
  obtain ⟨h1, h2⟩ := spansOk_ord.1 h
  intro j
  induction j with
  | zero =>
    intro hj
    have hs := h1 _ (spanD_mem hj)
    simp only [spanOk, Bool.and_eq_true, inR_t] at hs
    omega
  | succ j ih =>
    intro hj
    have := ih (by omega)
    have := ord_step h2 (show 0 < j + 1 by omega) hj
    rw [Nat.add_sub_cancel] at this
    omega
theorem spansOk_len {l : List Span} (h : spansOk l = true) : l.length ≤ 24 := by
  by_cases h0 : l.length = 0
  · omega
  · have hj : l.length - 1 < l.length := by omega
    have := ord_ge h (l.length - 1) hj
    have hs := (spansOk_ord.1 h).1 _ (spanD_mem hj)
    simp only [spanOk, Bool.and_eq_true, inR_t] at hs
    omega
theorem heapOk_iff {h : Heap} : heapOk h = true ↔ memoryOk h.mem = true ∧ spansOk h.live = true ∧ spansOk h.waits = true ∧ ∀ c, c < 24 → cnt h.live c + cnt h.waits c ≤ 1 ∧ h.mem.gone.getD c false = decide (0 < cnt h.waits c) := by
  simp only [heapOk, Bool.and_eq_true, allR_iff, decide_eq_true_eq, beq_iff_eq, and_assoc]
theorem heapOk_len {h : Heap} (k : heapOk h = true) : LHeap h 24 := by
  obtain ⟨h1, h2, h3, h4⟩ := heapOk_iff.1 k
  obtain ⟨m1, m2, m3⟩ := memoryOk_iff.1 h1
  exact ⟨⟨by omega, by omega⟩, spansOk_len h2, spansOk_len h3⟩
def InSpan (l : List Span) (w : Word) : Prop := w.is = true → w.key.base < w.key.top → ∃ s ∈ l, s.at_ ≤ w.key.base ∧ w.key.top ≤ s.at_ + s.len
theorem InSpan.mono {l l' : List Span} {w : Word} (h : InSpan l w) (hl : ∀ s ∈ l, s ∈ l') : InSpan l' w := fun h1 h2 => by
  obtain ⟨s, hs, h3⟩ := h h1 h2; exact ⟨s, hl s hs, h3⟩
structure Good (h : Heap) (rs : List Word) : Prop where
  ok : heapOk h = true
  regs : ∀ w ∈ rs, wordOk w = true ∧ InSpan (h.live ++ h.waits) w
  mem : ∀ w ∈ h.mem.words, InSpan (h.live ++ h.waits) w
theorem Good.len {h : Heap} {rs : List Word} (g : Good h rs) : LHeap h 24 := heapOk_len g.ok










def pf_strconv_Itoa : PF := ⟨[.t 2], .seq (.reg [.s (.mv 2 (.k (.v (.c (.str ⟨#[]⟩)))))]) (.seq (.reg [.s (.mv 3 (.t 0)), .s (.call (some 4) 97 [(.t 3)]), .s (.mv 2 (.t 4))]) (.ret))⟩
def c_strconv_Itoa : Fun := itoaFun 55
theorem ok_strconv_Itoa : FunOk Tryz.prog c_strconv_Itoa := by
  obtain ⟨b, hb⟩ := Option.isSome_iff_exists.1 (show (Tryz.prog.globalNamed tabName).isSome = true by kernel_rfl)
  exact itoa_ok (callable_of Tryz.func55 (pf := pf_strconv_Itoa) (by kernel_rfl)) hb fun n h0 h1 w ht => Tryz.strconv_Itoa n h0 h1 w ht

theorem decDigits_small {m : Nat} (h : m < 10) : Lib.decDigits m = [UInt8.ofNat (48 + m)] := by rw [Lib.decDigits]; simp [h]
theorem decDigits_big {m : Nat} (h : 10 ≤ m) : Lib.decDigits m = Lib.decDigits (m / 10) ++ [UInt8.ofNat (48 + m % 10)] := by rw [Lib.decDigits]; simp [show ¬ m < 10 by omega]
def sgn (b : Bool) (m : Nat) : Int := if b then -(m : Int) else m
theorem sgn_abs (n : Int) : sgn (decide (n < 0)) n.natAbs = n := by
  unfold sgn
  by_cases h : n < 0
  · rw [decide_eq_true h, if_pos rfl]; omega
  · rw [decide_eq_false h, if_neg (by simp)]; omega
theorem sgn_quo (b : Bool) (m : Nat) : Int.tdiv (sgn b m) 10 = sgn b (m / 10) := by
  unfold sgn
  cases b
  · rw [if_neg (by simp), if_neg (by simp)]; exact Int.ofNat_tdiv m 10 |>.symm
  · rw [if_pos rfl, if_pos rfl, Int.neg_tdiv]; exact congrArg Neg.neg (Int.ofNat_tdiv m 10).symm
theorem sgn_rem (b : Bool) (m : Nat) : Int.tmod (sgn b m) 10 = sgn b (m % 10) := by
  unfold sgn
  cases b
  · rw [if_neg (by simp), if_neg (by simp)]; exact Int.ofNat_tmod m 10 |>.symm
  · rw [if_pos rfl, if_pos rfl, Int.neg_tmod]; exact congrArg Neg.neg (Int.ofNat_tmod m 10).symm
theorem sgn_ne (b : Bool) (m : Nat) : (sgn b m != 0) = decide (m ≠ 0) := by
  unfold sgn
  cases b
  · rw [if_neg (by simp)]; rw [Bool.eq_iff_iff]; simp
  · rw [if_pos rfl]; rw [Bool.eq_iff_iff]; simp
theorem itoaB_0 : itoaB 0 = ⟨#[48]⟩ := by
  unfold itoaB Lib.itoa
  rw [if_neg (by decide), show (0 : Int).toNat = 0 from rfl, decDigits_small (by decide)]
  rfl
theorem bcat (a b : List UInt8) : (⟨a.toArray⟩ : ByteArray) ++ ⟨b.toArray⟩ = ⟨(a ++ b).toArray⟩ := by
  apply ByteArray.ext
  rw [ByteArray.data_append]
  simp
theorem bsize (a : List UInt8) : (⟨a.toArray⟩ : ByteArray).size = a.length := by
  show a.toArray.size = _
  simp
theorem digit (b : Bool) (m : Nat) : strI [IntKind.u8.wrap (IntKind.i64.wrap (48 + ((m % 10 : Nat) : Int)))] = ⟨[UInt8.ofNat (48 + m % 10)].toArray⟩ := by
  have : ∀ k : Fin 10, strI [IntKind.u8.wrap (IntKind.i64.wrap (48 + ((k.1 : Nat) : Int)))] = ⟨[UInt8.ofNat (48 + k.1)].toArray⟩ := by decide +kernel
  exact this ⟨m % 10, Nat.mod_lt _ (by decide)⟩

def lb_spec_l7Digits_0 : PC := .seq (.seq (.reg [.s (.mv 10 (.t 0)), .s (.bin 11 .neq (.t 10) (.k (.v (.c (.int .i64 0)))))]) (.cond (.t 11) (.skip) (.exit 0))) (.blk 1 (.seq (.reg [.s (.mv 12 (.t 0)), .s (.bin 13 .rem (.t 12) (.k (.v (.c (.int .i64 10))))), .s (.mv 5 (.t 13))]) (.seq (.seq (.reg [.s (.mv 14 (.t 5)), .s (.bin 15 .lss (.t 14) (.k (.v (.c (.int .i64 0)))))]) (.cond (.t 15) (.reg [.s (.mv 16 (.t 5)), .s (.bin 17 .sub (.k (.v (.c (.int .i64 0)))) (.t 16)), .s (.mv 5 (.t 17))]) (.skip))) (.seq (.reg [.s (.mv 18 (.t 5)), .s (.bin 19 .add (.k (.v (.c (.int .i64 48)))) (.t 18)), .s (.conv 20 .u8 (.t 19)), .s (.bs 21 (.int .u8) [(.t 20)]), .s (.b2s 22 (.t 21)), .s (.mv 23 (.t 4)), .s (.cat 24 (.t 22) (.t 23)), .s (.mv 4 (.t 24))]) (.reg [.s (.mv 25 (.t 0)), .s (.bin 26 .quo (.t 25) (.k (.v (.c (.int .i64 10))))), .s (.mv 0 (.t 26))])))))
def pf_spec_l7Digits : PF := ⟨[.t 2], .seq (.reg [.s (.mv 2 (.k (.v (.c (.str ⟨#[]⟩)))))]) (.seq (.seq (.reg [.s (.mv 6 (.t 0)), .s (.bin 7 .eql (.t 6) (.k (.v (.c (.int .i64 0)))))]) (.cond (.t 7) (.seq (.reg [.s (.mv 2 (.k (.v (.c (.str ⟨#[48]⟩)))))]) (.ret)) (.skip))) (.seq (.reg [.s (.mv 8 (.t 0)), .s (.bin 9 .lss (.t 8) (.k (.v (.c (.int .i64 0))))), .s (.mv 3 (.t 9))]) (.seq (.reg [.s (.mv 4 (.k (.v (.c (.str ⟨#[]⟩)))))]) (.seq (.blk 0 (.loop [0, 3, 4] lb_spec_l7Digits_0)) (.seq (.seq (.reg [.s (.mv 27 (.t 3))]) (.cond (.t 27) (.seq (.reg [.s (.mv 28 (.t 4)), .s (.cat 29 (.k (.v (.c (.str ⟨#[45]⟩)))) (.t 28)), .s (.mv 2 (.t 29))]) (.ret)) (.skip))) (.seq (.reg [.s (.mv 30 (.t 4)), .s (.mv 2 (.t 30))]) (.ret)))))))⟩
def c_spec_l7Digits : Fun := ⟨56, [], fun ts K => as1 ts fun t0 => arC (pI .i64) t0 fun n => chk (-9223372036854775808 ≤ n ∧ n ≤ 9223372036854775807) (K (.v (.c (.str (itoaB n)))) [])⟩
theorem run_spec_l7Digits (n : Int) (hpre : -9223372036854775808 ≤ n ∧ n ≤ 9223372036854775807) : runK [] (30) [] pf_spec_l7Digits [tI .i64 n] fun r o => r = .v (.c (.str (itoaB n))) ∧ o = [] := by
  have hsg := sgn_abs n
  have hN : n.natAbs < 10 ^ 20 := by have : (10 : Nat) ^ 20 = 100000000000000000000 := by decide
                                     omega
  conv => whnf
  repeat' (first | (refine sel_i (fun h => ?_) (fun h => ?_) <;> conv => whnf) | (refine chk_c ?_ ?_ <;> conv => whnf) | (refine And.intro ?_ rfl) | (refine And.intro ?_ ?_ <;> conv => whnf))
  · have hn : n = 0 := by simpa using h
    subst hn
    rw [itoaB_0]
  have hn : n ≠ 0 := by simpa using h
  clear h
  have hN0 : n.natAbs ≠ 0 := by omega
  generalize hb : decide (n < 0) = b at *
  generalize hM : n.natAbs = M at *
  have hres : itoaB n = if b then ⟨(45 :: Lib.decDigits M).toArray⟩ else ⟨(Lib.decDigits M).toArray⟩ := by
    unfold itoaB Lib.itoa
    rw [← hb, ← hM]
    by_cases h : n < 0
    · rw [if_pos h, decide_eq_true h, if_pos rfl]
    · rw [if_neg h, decide_eq_false h, if_neg (by simp), show n.toNat = n.natAbs by omega]
  rw [hres]
  have hMb : (M : Int) ≤ 9223372036854775808 := by omega
  clear hres hb hM
  subst hsg
  refine loop (α := Nat × List UInt8 × Nat) (fun q => ⟨[(0, .v (.c (.int .i64 (sgn b q.1)))), (3, .v (.c (.bool b))), (4, .v (.c (.str ⟨q.2.1.toArray⟩)))], [], nums, [], false, []⟩)
      (fun q => (q.1 < 10 ^ q.2.2 ∧ q.1 ≤ M ∧ q.2.1.length + q.2.2 ≤ 20) ∧ ((q.1 = 0 ∧ q.2.1 = Lib.decDigits M) ∨ (q.1 ≠ 0 ∧ Lib.decDigits M = Lib.decDigits q.1 ++ q.2.1))) (fun q => q.2.2) (fun q R hI hR => ?_) (M, [], 20) _
      ⟨⟨hN, Nat.le_refl _, Nat.le_refl _⟩, .inr ⟨hN0, (List.append_nil _).symm⟩⟩ (by show 20 < 30; decide)
  obtain ⟨m, out, k⟩ := q
  obtain ⟨⟨i1, i2, i4⟩, i3⟩ := hI
  dsimp only at i1 i2 i3 i4 ⊢
  conv => whnf
  rw [sgn_ne]
  refine sel_i (fun h => ?_) (fun h => ?_)
  · have hm : m ≠ 0 := of_decide_eq_true h
    clear h
    obtain ⟨_, i3⟩ : m ≠ 0 ∧ Lib.decDigits M = Lib.decDigits m ++ out := by rcases i3 with ⟨h, _⟩ | h; exact absurd h hm; exact h
    have hk : k ≠ 0 := fun e => by subst e; simp at i1; exact hm i1
    obtain ⟨k, rfl⟩ : ∃ j, k = j + 1 := ⟨k - 1, by omega⟩
    have hd : m / 10 < 10 ^ k := Nat.div_lt_of_lt_mul (by rw [Nat.pow_succ] at i1; omega)
    have hm10 : m % 10 < 10 := Nat.mod_lt _ (by decide)
    have e1 : sgn b (m % 10) < 0 → IntKind.i64.wrap (0 - sgn b (m % 10)) = ((m % 10 : Nat) : Int) := fun h => by
      unfold sgn at h ⊢
      cases b
      · simp at h
        omega
      · rw [if_pos rfl, wrap_id (by omega) (by omega)]; omega
    have e2 : ¬ sgn b (m % 10) < 0 → sgn b (m % 10) = ((m % 10 : Nat) : Int) := fun h => by
      unfold sgn at h ⊢
      cases b
      · rw [if_neg (by simp)]
      · rw [if_pos rfl] at h ⊢; omega
    have e3 : IntKind.i64.wrap (sgn b (m / 10)) = sgn b (m / 10) := by
      unfold sgn
      cases b
      · rw [if_neg (by simp)]; exact wrap_id (by omega) (by omega)
      · rw [if_pos rfl]; exact wrap_id (by omega) (by omega)
    have hR := hR (m / 10, UInt8.ofNat (48 + m % 10) :: out, k) ⟨⟨hd, by dsimp only; omega, by simp only [List.length_cons]; omega⟩, by
      dsimp only
      by_cases h10 : m < 10
      · left
        exact ⟨by omega, by rw [i3, decDigits_small h10, show m % 10 = m by omega]; rfl⟩
      · right
        exact ⟨by omega, by rw [i3, decDigits_big (by omega), List.append_assoc]; rfl⟩⟩ (by dsimp only; omega)
    conv => whnf
    repeat' (first | (refine sel_i (fun h => ?_) (fun h => ?_) <;> conv => whnf) | (refine chk_c ?_ ?_ <;> conv => whnf) | (refine And.intro ?_ rfl) | (refine And.intro ?_ ?_ <;> conv => whnf))
    all_goals (try simp only [sgn_rem, sgn_quo, e3] at *)
    all_goals first
      | (refine ⟨?_⟩; decide)
      | (have h := of_decide_eq_true h; rw [e1 h, digit b m, bsize, bsize]; refine ⟨?_⟩; simp only [List.length_cons, List.length_nil]; omega)
      | (have h := of_decide_eq_false h; rw [e2 h, digit b m, bsize, bsize]; refine ⟨?_⟩; simp only [List.length_cons, List.length_nil]; omega)
      | (have h := of_decide_eq_true h; rw [e1 h, digit b m, bcat]; exact hR)
      | (have h := of_decide_eq_false h; rw [e2 h, digit b m, bcat]; exact hR)
      | trace_state
  · have hm : m = 0 := by simpa using of_decide_eq_false h
    obtain ⟨_, i3⟩ : m = 0 ∧ out = Lib.decDigits M := by rcases i3 with h | ⟨h, _⟩; exact h; exact absurd hm h
    clear h
    conv => whnf
    repeat' (first | (refine sel_i (fun h => ?_) (fun h => ?_) <;> conv => whnf) | (refine chk_c ?_ ?_ <;> conv => whnf) | (refine And.intro ?_ rfl) | (refine And.intro ?_ ?_ <;> conv => whnf))
    · refine ⟨?_⟩
      rw [show (⟨#[45]⟩ : ByteArray) = ⟨[45].toArray⟩ from rfl, bsize, bsize]
      simp only [List.length_cons, List.length_nil]
      omega
    · rw [h, if_pos rfl, show (⟨#[45]⟩ : ByteArray) = ⟨[45].toArray⟩ from rfl, bcat, i3]; rfl
    · rw [h, if_neg (by simp), i3]
theorem ok_spec_l7Digits : FunOk Tryz.prog c_spec_l7Digits := funOk (E := []) (envOk_nil) mixd Tryz.func56 (pf := pf_spec_l7Digits) (by kernel_rfl) fun ts K h => by
  obtain ⟨t0, e0, h⟩ := as1_out h
  subst e0
  obtain ⟨n, e1, hq⟩ := arC_out (rd_int .i64) h
  clear h
  subst e1
  have h := hq
  clear hq
  obtain ⟨hpre, h⟩ := chk_o h
  exact ⟨_, _, h, Nat.le_of_ble_eq_true (show Nat.ble 1 Tryz.f56.ntmps = true by kernel_rfl), _, run_spec_l7Digits n hpre⟩

theorem decLen : ∀ (k m : Nat), m < 10 ^ (k + 1) → (Lib.decDigits m).length ≤ k + 1
  | 0, m, h => by rw [decDigits_small (by simpa using h)]; simp
  | k + 1, m, h => by
    by_cases h10 : m < 10
    · rw [decDigits_small h10]; simp
    · rw [decDigits_big (by omega), List.length_append]
      have := decLen k (m / 10) (Nat.div_lt_of_lt_mul (by rw [Nat.pow_succ] at h; omega))
      simp only [List.length_singleton]
      omega
def InI (n : Int) : Prop := -9223372036854775808 ≤ n ∧ n ≤ 9223372036854775807
theorem itoaB_size {n : Int} (h : InI n) : (itoaB n).size ≤ 21 := by
  obtain ⟨h0, h1⟩ := h
  have e : (10 : Nat) ^ (19 + 1) = 100000000000000000000 := by decide
  unfold itoaB Lib.itoa
  rw [bsize]
  split
  · have := decLen 19 n.natAbs (by omega)
    simp only [List.length_cons]; omega
  · have := decLen 19 n.toNat (by omega)
    omega
def shownB (n : Int) : ByteArray := if n < 0 then ⟨#[45]⟩ else itoaB n
def spB : ByteArray := ⟨#[32]⟩
theorem spS : spB.size = 1 := rfl
def pf_impl_shown : PF := ⟨[.t 2], .seq (.reg [.s (.mv 2 (.k (.v (.c (.str ⟨#[]⟩)))))]) (.seq (.seq (.reg [.s (.mv 3 (.t 0)), .s (.bin 4 .lss (.t 3) (.k (.v (.c (.int .i64 0)))))]) (.cond (.t 4) (.seq (.reg [.s (.mv 2 (.k (.v (.c (.str ⟨#[45]⟩)))))]) (.ret)) (.skip))) (.seq (.reg [.s (.mv 5 (.t 0)), .s (.call (some 6) 55 [(.t 5)]), .s (.mv 2 (.t 6))]) (.ret)))⟩
def c_impl_shown : Fun := ⟨30, [], fun ts K => as1 ts fun t0 => arC (pI .i64) t0 fun n => chk (InI n) (K (.v (.c (.str (shownB n)))) [])⟩
theorem run_impl_shown (n : Int) (hpre : InI n) : runK [c_strconv_Itoa] (0) [] pf_impl_shown [tI .i64 n] fun r o => r = .v (.c (.str (shownB n))) ∧ o = [] := by
  conv => whnf
  repeat' (first | (refine sel_i (fun h => ?_) (fun h => ?_) <;> conv => whnf) | (refine chk_c ?_ ?_ <;> conv => whnf) | (refine And.intro ?_ rfl) | (refine And.intro ?_ ?_ <;> conv => whnf))
  all_goals first
    | (refine ⟨?_⟩; exact hpre)
    | (unfold shownB; rw [if_pos (of_decide_eq_true h)]; done)
    | (unfold shownB; rw [if_neg (of_decide_eq_false h)]; done)
    | trace_state
theorem ok_impl_shown : FunOk Tryz.prog c_impl_shown := funOk (E := [c_strconv_Itoa]) (envOk_cons ok_strconv_Itoa (envOk_nil)) mixd Tryz.func30 (pf := pf_impl_shown) (by kernel_rfl) fun ts K h => by
  obtain ⟨t0, e0, h⟩ := as1_out h
  subst e0
  obtain ⟨n, e1, hq⟩ := arC_out (rd_int .i64) h
  clear h
  subst e1
  have h := hq
  clear hq
  obtain ⟨hpre, h⟩ := chk_o h
  exact ⟨_, _, h, Nat.le_of_ble_eq_true (show Nat.ble 1 Tryz.f30.ntmps = true by kernel_rfl), _, run_impl_shown n hpre⟩

def pf_spec_l26Num : PF := ⟨[.t 2], .seq (.reg [.s (.mv 2 (.k (.v (.c (.str ⟨#[]⟩)))))]) (.seq (.seq (.reg [.s (.mv 3 (.t 0)), .s (.bin 4 .lss (.t 3) (.k (.v (.c (.int .i64 0)))))]) (.cond (.t 4) (.seq (.reg [.s (.mv 2 (.k (.v (.c (.str ⟨#[45]⟩)))))]) (.ret)) (.skip))) (.seq (.reg [.s (.mv 5 (.t 0)), .s (.call (some 6) 56 [(.t 5)]), .s (.mv 2 (.t 6))]) (.ret)))⟩
def c_spec_l26Num : Fun := ⟨32, [], fun ts K => as1 ts fun t0 => arC (pI .i64) t0 fun n => chk (InI n) (K (.v (.c (.str (shownB n)))) [])⟩
theorem run_spec_l26Num (n : Int) (hpre : InI n) : runK [c_spec_l7Digits] (0) [] pf_spec_l26Num [tI .i64 n] fun r o => r = .v (.c (.str (shownB n))) ∧ o = [] := by
  conv => whnf
  repeat' (first | (refine sel_i (fun h => ?_) (fun h => ?_) <;> conv => whnf) | (refine chk_c ?_ ?_ <;> conv => whnf) | (refine And.intro ?_ rfl) | (refine And.intro ?_ ?_ <;> conv => whnf))
  all_goals first
    | (refine ⟨?_⟩; exact hpre)
    | (unfold shownB; rw [if_pos (of_decide_eq_true h)]; done)
    | (unfold shownB; rw [if_neg (of_decide_eq_false h)]; done)
    | trace_state
theorem ok_spec_l26Num : FunOk Tryz.prog c_spec_l26Num := funOk (E := [c_spec_l7Digits]) (envOk_cons ok_spec_l7Digits (envOk_nil)) mixd Tryz.func32 (pf := pf_spec_l26Num) (by kernel_rfl) fun ts K h => by
  obtain ⟨t0, e0, h⟩ := as1_out h
  subst e0
  obtain ⟨n, e1, hq⟩ := arC_out (rd_int .i64) h
  clear h
  subst e1
  have h := hq
  clear hq
  obtain ⟨hpre, h⟩ := chk_o h
  exact ⟨_, _, h, Nat.le_of_ble_eq_true (show Nat.ble 1 Tryz.f32.ntmps = true by kernel_rfl), _, run_spec_l26Num n hpre⟩

theorem shownB_size {n : Int} (h : InI n) : (shownB n).size ≤ 21 := by
  unfold shownB
  split
  · decide
  · exact itoaB_size h
def trapL : List ByteArray := [⟨#[110, 111, 110, 101]⟩, ⟨#[107, 101, 121]⟩, ⟨#[115, 101, 97, 108]⟩, ⟨#[112, 101, 114, 109]⟩, ⟨#[98, 111, 117, 110, 100]⟩, ⟨#[115, 116, 111, 112]⟩]
def trapB (n : Int) : ByteArray := if inR n 0 5 then trapL.getD n.toNat (FT.zero .str) else ⟨#[]⟩
theorem trapB_size (n : Int) : (trapB n).size ≤ 21 := by
  unfold trapB
  split
  · rename_i h
    have h := inR_t.1 h
    have : ∀ k : Fin 6, (trapL.getD k.1 (FT.zero .str)).size ≤ 21 := by decide
    exact this ⟨n.toNat, by omega⟩
  · exact Nat.zero_le _
theorem trapB_no {n : Int} (h : inR n 0 5 = false) : trapB n = ⟨#[]⟩ := by unfold trapB; rw [h]; rfl
theorem trapB_yes {n : Int} (h : inR n 0 5 = true) : trapB n = trapL.getD n.toNat (FT.zero .str) := by unfold trapB; rw [h]; rfl

def pf_impl_TrapText : PF := ⟨[.t 2], .seq (.reg [.s (.mv 2 (.k (.v (.c (.str ⟨#[]⟩)))))]) (.seq (.seq (.reg [.s (.mv 3 (.t 0)), .s (.call (some 4) 37 [(.t 3), (.k (.v (.c (.int .i64 0)))), (.k (.v (.c (.int .i64 5))))]), .s (.bnot 5 (.t 4))]) (.cond (.t 5) (.seq (.reg [.s (.mv 2 (.k (.v (.c (.str ⟨#[]⟩)))))]) (.ret)) (.skip))) (.seq (.reg [.s (.bs 6 .str [(.k (.v (.c (.str ⟨#[110, 111, 110, 101]⟩)))), (.k (.v (.c (.str ⟨#[107, 101, 121]⟩)))), (.k (.v (.c (.str ⟨#[115, 101, 97, 108]⟩)))), (.k (.v (.c (.str ⟨#[112, 101, 114, 109]⟩)))), (.k (.v (.c (.str ⟨#[98, 111, 117, 110, 100]⟩)))), (.k (.v (.c (.str ⟨#[115, 116, 111, 112]⟩))))]), .s (.mv 7 (.t 0)), .s (.ia 8 .str (.t 6) (.t 7)), .s (.load 9 false 1 (.t 8)), .s (.mv 2 (.t 9))]) (.ret)))⟩
def c_impl_TrapText : Fun := ⟨31, [], fun ts K => as1 ts fun t0 => arC (pI .i64) t0 fun n => K (.v (.c (.str (trapB n)))) []⟩
theorem run_impl_TrapText (n : Int) : runK [c_impl_in] (0) [] pf_impl_TrapText [tI .i64 n] fun r o => r = .v (.c (.str (trapB n))) ∧ o = [] := by
  conv => whnf
  repeat' (first | (refine sel_i (fun h => ?_) (fun h => ?_) <;> conv => whnf) | (refine chk_c ?_ ?_ <;> conv => whnf) | (refine And.intro ?_ rfl) | (refine And.intro ?_ ?_ <;> conv => whnf))
  all_goals (try simp only [Bool.not_eq_true', Bool.not_eq_false'] at *)
  all_goals first
    | (rw [trapB_no h]; done)
    | (rw [trapB_yes h]; rfl)
    | (have hn := inR_t.1 h; refine ⟨?_⟩; simp only [List.length_cons, List.length_nil]; omega)
    | trace_state
theorem ok_impl_TrapText : FunOk Tryz.prog c_impl_TrapText := funOk (E := [c_impl_in]) (envOk_cons ok_impl_in (envOk_nil)) mixd Tryz.func31 (pf := pf_impl_TrapText) (by kernel_rfl) fun ts K h => by
  obtain ⟨t0, e0, h⟩ := as1_out h
  subst e0
  obtain ⟨n, e1, hq⟩ := arC_out (rd_int .i64) h
  clear h
  subst e1
  have h := hq
  clear hq
  exact ⟨_, _, h, Nat.le_of_ble_eq_true (show Nat.ble 1 Tryz.f31.ntmps = true by kernel_rfl), _, run_impl_TrapText n⟩

def pf_spec_TrapText : PF := ⟨[.t 2], .seq (.reg [.s (.mv 2 (.k (.v (.c (.str ⟨#[]⟩)))))]) (.seq (.seq (.reg [.s (.mv 3 (.t 0)), .s (.call (some 4) 57 [(.t 3), (.k (.v (.c (.int .i64 0)))), (.k (.v (.c (.int .i64 5))))]), .s (.bnot 5 (.t 4))]) (.cond (.t 5) (.seq (.reg [.s (.mv 2 (.k (.v (.c (.str ⟨#[]⟩)))))]) (.ret)) (.skip))) (.seq (.reg [.s (.bs 6 .str [(.k (.v (.c (.str ⟨#[110, 111, 110, 101]⟩)))), (.k (.v (.c (.str ⟨#[107, 101, 121]⟩)))), (.k (.v (.c (.str ⟨#[115, 101, 97, 108]⟩)))), (.k (.v (.c (.str ⟨#[112, 101, 114, 109]⟩)))), (.k (.v (.c (.str ⟨#[98, 111, 117, 110, 100]⟩)))), (.k (.v (.c (.str ⟨#[115, 116, 111, 112]⟩))))]), .s (.mv 7 (.t 0)), .s (.ia 8 .str (.t 6) (.t 7)), .s (.load 9 false 1 (.t 8)), .s (.mv 2 (.t 9))]) (.ret)))⟩
def c_spec_TrapText : Fun := ⟨33, [], fun ts K => as1 ts fun t0 => arC (pI .i64) t0 fun n => K (.v (.c (.str (trapB n)))) []⟩
theorem run_spec_TrapText (n : Int) : runK [c_spec_l1In] (0) [] pf_spec_TrapText [tI .i64 n] fun r o => r = .v (.c (.str (trapB n))) ∧ o = [] := by
  conv => whnf
  repeat' (first | (refine sel_i (fun h => ?_) (fun h => ?_) <;> conv => whnf) | (refine chk_c ?_ ?_ <;> conv => whnf) | (refine And.intro ?_ rfl) | (refine And.intro ?_ ?_ <;> conv => whnf))
  all_goals (try simp only [Bool.not_eq_true', Bool.not_eq_false'] at *)
  all_goals first
    | (rw [trapB_no h]; done)
    | (rw [trapB_yes h]; rfl)
    | (have hn := inR_t.1 h; refine ⟨?_⟩; simp only [List.length_cons, List.length_nil]; omega)
    | trace_state
theorem ok_spec_TrapText : FunOk Tryz.prog c_spec_TrapText := funOk (E := [c_spec_l1In]) (envOk_cons ok_spec_l1In (envOk_nil)) mixd Tryz.func33 (pf := pf_spec_TrapText) (by kernel_rfl) fun ts K h => by
  obtain ⟨t0, e0, h⟩ := as1_out h
  subst e0
  obtain ⟨n, e1, hq⟩ := arC_out (rd_int .i64) h
  clear h
  subst e1
  have h := hq
  clear hq
  exact ⟨_, _, h, Nat.le_of_ble_eq_true (show Nat.ble 1 Tryz.f33.ntmps = true by kernel_rfl), _, run_spec_TrapText n⟩

def seenB (x : Seen) : ByteArray := shownB x.at_ ++ spB ++ shownB x.r ++ spB ++ shownB x.addr ++ spB ++ trapB x.trap
def InS (x : Seen) : Prop := InI x.at_ ∧ InI x.r ∧ InI x.addr

def pf_impl_SeenText : PF := ⟨[.t 2], .seq (.reg [.s (.box 1 (.t 0)), .s (.mv 2 (.k (.v (.c (.str ⟨#[]⟩)))))]) (.seq (.rgd [] [.s (.fa 3 (.t 1) 0), .s (.load 4 false 1 (.t 3)), .s (.call (some 5) 30 [(.t 4)]), .s (.cat 6 (.t 5) (.k (.v (.c (.str ⟨#[32]⟩))))), .s (.fa 7 (.t 1) 1), .s (.load 8 false 1 (.t 7)), .s (.call (some 9) 30 [(.t 8)]), .s (.cat 10 (.t 6) (.t 9)), .s (.cat 11 (.t 10) (.k (.v (.c (.str ⟨#[32]⟩))))), .s (.fa 12 (.t 1) 2), .s (.load 13 false 1 (.t 12)), .s (.call (some 14) 30 [(.t 13)]), .s (.cat 15 (.t 11) (.t 14)), .s (.cat 16 (.t 15) (.k (.v (.c (.str ⟨#[32]⟩))))), .s (.fa 17 (.t 1) 3), .s (.load 18 false 1 (.t 17)), .s (.call (some 19) 31 [(.t 18)]), .s (.cat 20 (.t 16) (.t 19)), .s (.mv 2 (.t 20))] (.tk 0 (.tk 1 (.tk 4 (.tk 5 (.tk 9 (.tk 10 (.tk 14 (.tk 15 (.one 2 false (.tk 3 (.one 6 false (.tk 7 (.tk 8 (.one 11 false (.tk 12 (.tk 13 (.one 16 true (.tk 17 (.tk 18 (.done none))))))))))))))))))))) (.ret))⟩
def c_impl_SeenText : Fun := ⟨13, [], fun ts K => as1 ts fun t0 => arG pSeenT t0 fun x => chk (InS x) (K (.v (.c (.str (seenB x)))) [])⟩
theorem run_impl_SeenText (x : Seen) (hpre : InS x) : runK [c_impl_shown, c_impl_TrapText] (0) [] pf_impl_SeenText [tG (x.tc [])] fun r o => r = .v (.c (.str (seenB x))) ∧ o = [] := by
  obtain ⟨h1, h2, h3⟩ := hpre
  have s1 := shownB_size h1
  have s2 := shownB_size h2
  have s3 := shownB_size h3
  have s4 := trapB_size x.trap
  conv => whnf
  repeat' (first | (refine sel_i (fun h => ?_) (fun h => ?_) <;> conv => whnf) | (refine chk_c ?_ ?_ <;> conv => whnf) | (refine And.intro ?_ rfl) | (refine And.intro ?_ ?_ <;> conv => whnf))
  all_goals (try simp only [← show spB = ⟨#[32]⟩ from rfl] at *)
  all_goals first
    | (refine ⟨?_⟩; assumption)
    | rfl
    | (refine ⟨?_⟩; simp only [ByteArray.size_append, spS]; omega)
    | trace_state
theorem ok_impl_SeenText : FunOk Tryz.prog c_impl_SeenText := funOk (E := [c_impl_shown, c_impl_TrapText]) (envOk_cons ok_impl_shown (envOk_cons ok_impl_TrapText (envOk_nil))) mixd Tryz.func13 (pf := pf_impl_SeenText) (by kernel_rfl) fun ts K h => by
  obtain ⟨t0, e0, h⟩ := as1_out h
  subst e0
  obtain ⟨x, e1, hq⟩ := arG_out rd_seen h
  clear h
  subst e1
  have h := hq
  clear hq
  obtain ⟨hpre, h⟩ := chk_o h
  exact ⟨_, _, h, Nat.le_of_ble_eq_true (show Nat.ble 1 Tryz.f13.ntmps = true by kernel_rfl), _, run_impl_SeenText x hpre⟩

def pf_spec_SeenText : PF := ⟨[.t 2], .seq (.reg [.s (.box 1 (.t 0)), .s (.mv 2 (.k (.v (.c (.str ⟨#[]⟩)))))]) (.seq (.rgd [] [.s (.fa 3 (.t 1) 0), .s (.load 4 false 1 (.t 3)), .s (.call (some 5) 32 [(.t 4)]), .s (.cat 6 (.t 5) (.k (.v (.c (.str ⟨#[32]⟩))))), .s (.fa 7 (.t 1) 1), .s (.load 8 false 1 (.t 7)), .s (.call (some 9) 32 [(.t 8)]), .s (.cat 10 (.t 6) (.t 9)), .s (.cat 11 (.t 10) (.k (.v (.c (.str ⟨#[32]⟩))))), .s (.fa 12 (.t 1) 2), .s (.load 13 false 1 (.t 12)), .s (.call (some 14) 32 [(.t 13)]), .s (.cat 15 (.t 11) (.t 14)), .s (.cat 16 (.t 15) (.k (.v (.c (.str ⟨#[32]⟩))))), .s (.fa 17 (.t 1) 3), .s (.load 18 false 1 (.t 17)), .s (.call (some 19) 33 [(.t 18)]), .s (.cat 20 (.t 16) (.t 19)), .s (.mv 2 (.t 20))] (.tk 0 (.tk 1 (.tk 4 (.tk 5 (.tk 9 (.tk 10 (.tk 14 (.tk 15 (.one 2 false (.tk 3 (.one 6 false (.tk 7 (.tk 8 (.one 11 false (.tk 12 (.tk 13 (.one 16 true (.tk 17 (.tk 18 (.done none))))))))))))))))))))) (.ret))⟩
def c_spec_SeenText : Fun := ⟨14, [], fun ts K => as1 ts fun t0 => arG pSeenT t0 fun x => chk (InS x) (K (.v (.c (.str (seenB x)))) [])⟩
theorem run_spec_SeenText (x : Seen) (hpre : InS x) : runK [c_spec_l26Num, c_spec_TrapText] (0) [] pf_spec_SeenText [tG (x.tc [])] fun r o => r = .v (.c (.str (seenB x))) ∧ o = [] := by
  obtain ⟨h1, h2, h3⟩ := hpre
  have s1 := shownB_size h1
  have s2 := shownB_size h2
  have s3 := shownB_size h3
  have s4 := trapB_size x.trap
  conv => whnf
  repeat' (first | (refine sel_i (fun h => ?_) (fun h => ?_) <;> conv => whnf) | (refine chk_c ?_ ?_ <;> conv => whnf) | (refine And.intro ?_ rfl) | (refine And.intro ?_ ?_ <;> conv => whnf))
  all_goals (try simp only [← show spB = ⟨#[32]⟩ from rfl] at *)
  all_goals first
    | (refine ⟨?_⟩; assumption)
    | rfl
    | (refine ⟨?_⟩; simp only [ByteArray.size_append, spS]; omega)
    | trace_state
theorem ok_spec_SeenText : FunOk Tryz.prog c_spec_SeenText := funOk (E := [c_spec_l26Num, c_spec_TrapText]) (envOk_cons ok_spec_l26Num (envOk_cons ok_spec_TrapText (envOk_nil))) mixd Tryz.func14 (pf := pf_spec_SeenText) (by kernel_rfl) fun ts K h => by
  obtain ⟨t0, e0, h⟩ := as1_out h
  subst e0
  obtain ⟨x, e1, hq⟩ := arG_out rd_seen h
  clear h
  subst e1
  have h := hq
  clear hq
  obtain ⟨hpre, h⟩ := chk_o h
  exact ⟨_, _, h, Nat.le_of_ble_eq_true (show Nat.ble 1 Tryz.f14.ntmps = true by kernel_rfl), _, run_spec_SeenText x hpre⟩

/-! strictly ascending lists: they are what their members are -/
def Asc (l : List Int) : Prop := l.Pairwise (fun a b => a < b)
theorem asc_ext : ∀ {a b : List Int}, Asc a → Asc b → (∀ x, x ∈ a ↔ x ∈ b) → a = b
  | [], [], _, _, _ => rfl
  | [], y :: b, _, _, h => by have := (h y).2 (by simp); cases this
  | x :: a, [], _, _, h => by have := (h x).1 (by simp); cases this
  | x :: a, y :: b, ha, hb, h => by
    obtain ⟨ha1, ha2⟩ := List.pairwise_cons.1 ha
    obtain ⟨hb1, hb2⟩ := List.pairwise_cons.1 hb
    have e : x = y := by
      have h1 := (h x).1 (by simp)
      have h2 := (h y).2 (by simp)
      rcases List.mem_cons.1 h1 with h1 | h1
      · exact h1
      · rcases List.mem_cons.1 h2 with h2 | h2
        · exact h2.symm
        · have := ha1 y h2
          have := hb1 x h1
          omega
    subst e
    congr 1
    refine asc_ext ha2 hb2 fun z => ?_
    have hz := h z
    simp only [List.mem_cons] at hz
    constructor
    · intro hm
      have := ha1 z hm
      rcases hz.1 (.inr hm) with h3 | h3
      · omega
      · exact h3
    · intro hm
      have := hb1 z hm
      rcases hz.2 (.inr hm) with h3 | h3
      · omega
      · exact h3
def compGo (p : Int) : List Int → List Int
  | [] => []
  | y :: ys => if y = p then compGo p ys else y :: compGo y ys
def compI : List Int → List Int
  | [] => []
  | x :: xs => x :: compGo x xs
def Up (l : List Int) : Prop := l.Pairwise (fun a b => a ≤ b)
theorem compGo_mem : ∀ {l : List Int} {p x : Int}, x ∈ compGo p l → x ∈ l
  | y :: ys, p, x, h => by
    unfold compGo at h
    split at h
    · exact List.mem_cons_of_mem _ (compGo_mem h)
    · rcases List.mem_cons.1 h with h | h
      · rw [h]; simp
      · exact List.mem_cons_of_mem _ (compGo_mem h)
theorem compGo_in : ∀ {l : List Int} {p x : Int}, x ∈ l → x = p ∨ x ∈ compGo p l
  | y :: ys, p, x, h => by
    unfold compGo
    rcases List.mem_cons.1 h with h | h
    · split
      · left; omega
      · right; rw [h]; simp
    · split
      · exact compGo_in h
      · rcases compGo_in (p := y) h with h | h
        · right; rw [h]; simp
        · right; exact List.mem_cons_of_mem _ h
theorem compGo_asc : ∀ {l : List Int} {p : Int}, Up (p :: l) → Asc (p :: compGo p l)
  | [], p, _ => List.pairwise_singleton _ _
  | y :: ys, p, h => by
    obtain ⟨h1, h2⟩ := List.pairwise_cons.1 h
    unfold compGo
    split
    · rename_i e
      subst e
      exact compGo_asc h2
    · rename_i e
      have hy := h1 y (by simp)
      have ih := compGo_asc h2
      refine List.pairwise_cons.2 ⟨fun z hz => ?_, ih⟩
      rcases List.mem_cons.1 hz with hz | hz
      · omega
      · have := (List.pairwise_cons.1 ih).1 z hz
        omega
theorem compI_asc : ∀ {l : List Int}, Up l → Asc (compI l)
  | [], _ => List.Pairwise.nil
  | _ :: _, h => compGo_asc h
theorem compI_mem {l : List Int} {x : Int} : x ∈ compI l ↔ x ∈ l := by
  cases l with
  | nil => exact Iff.rfl
  | cons y ys =>
    unfold compI
    constructor
    · intro h
      rcases List.mem_cons.1 h with h | h
      · rw [h]; simp
      · exact List.mem_cons_of_mem _ (compGo_mem h)
    · intro h
      rcases List.mem_cons.1 h with h | h
      · rw [h]; simp
      · rcases compGo_in (p := y) h with h | h
        · rw [h]; simp
        · exact List.mem_cons_of_mem _ h
def insI (a : Int) : List Int → List Int
  | [] => [a]
  | y :: ys => if y < a then y :: insI a ys else if y = a then y :: ys else a :: y :: ys
theorem insI_mem : ∀ {l : List Int} {a x : Int}, x ∈ insI a l ↔ x = a ∨ x ∈ l
  | [], a, x => by simp [insI]
  | y :: ys, a, x => by
    unfold insI
    split
    · rw [List.mem_cons, insI_mem, List.mem_cons]
      constructor
      · rintro (h | h | h) <;> simp [h]
      · rintro (h | h | h) <;> simp [h]
    · split
      · rename_i e
        rw [List.mem_cons]
        constructor
        · rintro (h | h) <;> simp [h]
        · rintro (h | h | h)
          · left; omega
          · exact .inl h
          · exact .inr h
      · simp
theorem insI_asc : ∀ {l : List Int} {a : Int}, Asc l → Asc (insI a l)
  | [], a, _ => List.pairwise_singleton _ _
  | y :: ys, a, h => by
    obtain ⟨h1, h2⟩ := List.pairwise_cons.1 h
    unfold insI
    split
    · refine List.pairwise_cons.2 ⟨fun z hz => ?_, insI_asc h2⟩
      rcases insI_mem.1 hz with hz | hz
      · omega
      · exact h1 z hz
    · split
      · exact h
      · refine List.pairwise_cons.2 ⟨fun z hz => ?_, h⟩
        rcases List.mem_cons.1 hz with hz | hz
        · omega
        · have := h1 z hz; omega

def sortedI (xs : List Int) : List Int := xs.mergeSort fun x y => decide (x ≤ y)
theorem sortedI_up (xs : List Int) : Up (sortedI xs) := by
  have := List.pairwise_mergeSort (le := fun x y : Int => decide (x ≤ y)) (fun a b c h1 h2 => by
    simp only [decide_eq_true_eq] at h1 h2 ⊢; omega) (fun a b => by
    simp only [Bool.or_eq_true, decide_eq_true_eq]; omega) xs
  exact this.imp (fun h => of_decide_eq_true h)
theorem sortedI_mem {xs : List Int} {x : Int} : x ∈ sortedI xs ↔ x ∈ xs := List.mem_mergeSort
def setI (xs : List Int) : List Int := compI (sortedI xs)
theorem setI_asc (xs : List Int) : Asc (setI xs) := compI_asc (sortedI_up xs)
theorem setI_mem {xs : List Int} {x : Int} : x ∈ setI xs ↔ x ∈ xs := by
  unfold setI; rw [compI_mem, sortedI_mem]
theorem fold_asc : ∀ (xs : List Int) {o : List Int}, Asc o → Asc (xs.foldl (fun o a => insI a o) o)
  | [], _, h => h
  | x :: xs, o, h => fold_asc xs (insI_asc h)
theorem fold_mem : ∀ (xs : List Int) {o : List Int} {x : Int}, x ∈ xs.foldl (fun o a => insI a o) o ↔ x ∈ o ∨ x ∈ xs
  | [], o, x => by simp
  | y :: xs, o, x => by
    rw [List.foldl_cons, fold_mem xs, insI_mem, List.mem_cons]
    constructor
    · rintro ((h | h) | h) <;> simp [h]
    · rintro (h | h | h) <;> simp [h]
theorem setI_fold (xs : List Int) : setI xs = xs.foldl (fun o a => insI a o) [] :=
  asc_ext (setI_asc xs) (fold_asc xs List.Pairwise.nil) fun x => by rw [setI_mem, fold_mem]; simp
theorem setI_len (xs : List Int) : (setI xs).length ≤ xs.length := by
  have h1 : ∀ (l : List Int) (p : Int), (compGo p l).length ≤ l.length := by
    intro l
    induction l with
    | nil => intro p; exact Nat.le_refl _
    | cons y ys ih =>
      intro p
      unfold compGo
      split
      · have := ih p; simp only [List.length_cons]; omega
      · have := ih y; simp only [List.length_cons]; omega
  have h2 : (sortedI xs).length = xs.length := List.length_mergeSort xs
  unfold setI
  cases hs : sortedI xs with
  | nil => exact Nat.zero_le _
  | cons y ys =>
    rw [hs] at h2
    have := h1 ys y
    unfold compI
    simp only [List.length_cons] at h2 ⊢
    omega

def pf_slices_Sort_int : PF := ⟨[], .seq (.reg [.s (.mv 3 (.t 0)), .s (.len 4 false (.t 3)), .s (.mv 2 (.t 4))]) (.reg [.s (.mv 5 (.t 0)), .s (.mv 6 (.t 2)), .s (.mv 7 (.t 2)), .s (.conv 8 .u64 (.t 7)), .s (.call (some 9) 54 [(.t 8)]), .s (.call (some 10) 53 [(.t 5), (.k (.v (.c (.int .i64 0)))), (.t 6), (.t 9)])])⟩
def c_slices_Sort_int : Fun := sortFun 28
theorem ok_slices_Sort_int : FunOk Tryz.prog c_slices_Sort_int :=
  sort_ok (callable_of Tryz.func28 (pf := pf_slices_Sort_int) (by kernel_rfl)) (fun blk off cap zs w h1 h2 h3 => Tryz.slices_Sort_int blk off cap zs w h1 h2 h3) (fun p cap w => Tryz.slices_Sort_int_none p cap w)

/-! neighbours that are alike, in place -/
def endI (p : Int) : List Int → Int
  | [] => p
  | y :: ys => endI y ys
theorem compGo_snoc : ∀ (l : List Int) (p x : Int), compGo p (l ++ [x]) = if x = endI p l then compGo p l else compGo p l ++ [x]
  | [], p, x => by
    simp only [List.nil_append, compGo, endI]
    rfl
  | y :: ys, p, x => by
    have ih := compGo_snoc ys y x
    have e1 : compGo p (y :: ys ++ [x]) = if y = p then compGo p (ys ++ [x]) else y :: compGo y (ys ++ [x]) := rfl
    have e2 : compGo p (y :: ys) = if y = p then compGo p ys else y :: compGo y ys := rfl
    by_cases hx : x = endI y ys
    · rw [if_pos hx] at ih
      rw [if_pos (show x = endI p (y :: ys) from hx), e1, e2]
      by_cases h : y = p
      · rw [if_pos h, if_pos h, ← h, ih]
      · rw [if_neg h, if_neg h, ih]
    · rw [if_neg hx] at ih
      rw [if_neg (show ¬ x = endI p (y :: ys) from hx), e1, e2]
      by_cases h : y = p
      · rw [if_pos h, if_pos h, ← h, ih]
      · rw [if_neg h, if_neg h, ih, List.cons_append]
theorem endI_getD : ∀ (l : List Int) (p : Int), endI p l = (p :: l).getD l.length 0
  | [], p => rfl
  | y :: ys, p => by
    simp only [endI]
    rw [endI_getD ys y]
    simp
theorem compI_snoc {l : List Int} (x : Int) (h : 0 < l.length) : compI (l ++ [x]) = if x = l.getD (l.length - 1) 0 then compI l else compI l ++ [x] := by
  cases l with
  | nil => simp at h
  | cons y ys =>
    simp only [List.cons_append, compI]
    rw [compGo_snoc, endI_getD]
    simp only [List.length_cons, Nat.add_sub_cancel]
    split <;> rfl
theorem take_snoc {α : Type} {s : List α} {m : Nat} {z : α} (h : m < s.length) : s.take (m + 1) = s.take m ++ [s.getD m z] := by
  rw [List.take_add_one, List.getElem?_eq_getElem h, List.getD_eq_getElem?_getD, List.getElem?_eq_getElem h]; rfl
theorem compI_step {s : List Int} {m : Nat} (h0 : 0 < m) (h : m < s.length) : compI (s.take (m + 1)) = if s.getD m (FT.zero (.int .i64)) = s.getD (m - 1) (FT.zero (.int .i64)) then compI (s.take m) else compI (s.take m) ++ [s.getD m (FT.zero (.int .i64))] := by
  have hl : (s.take m).length = m := by rw [List.length_take]; omega
  rw [take_snoc (z := FT.zero (.int .i64)) h, compI_snoc _ (by omega), hl]
  have e : (s.take m).getD (m - 1) 0 = s.getD (m - 1) (FT.zero (.int .i64)) := by
    rw [List.getD_eq_getElem?_getD, List.getD_eq_getElem?_getD, List.getElem?_take, if_pos (by omega)]; rfl
  rw [e]
theorem over_take {α : Type} (c z : List α) (a : Nat) (h : a ≤ c.length) : win (over c (0 + a) z) 0 a = c.take a := by
  unfold win over
  rw [List.drop_zero, Nat.zero_add, List.append_assoc, List.take_append_of_le_length (by rw [List.length_take]; omega), List.take_take, Nat.min_self]
theorem over_len0 {α : Type} (c z : List α) (a : Nat) (h : a + z.length ≤ c.length) : (over c (0 + a) z).length = c.length := by
  unfold over
  simp only [List.length_append, List.length_take, List.length_drop]; omega
theorem dropK_getD {α : Type} {c s : List α} {k i : Nat} (z : α) (h : c.drop k = s.drop k) (hk : k ≤ i) : c.getD i z = s.getD i z := by
  have := congrArg (fun l => l.getD (i - k) z) h
  simp only [List.getD_eq_getElem?_getD, List.getElem?_drop] at this ⊢
  rw [show k + (i - k) = i by omega] at this
  exact this
theorem drop_set {α : Type} {c s : List α} {k : Nat} {v : α} (h : c.drop k = s.drop k) : (c.set k v).drop (k + 1) = s.drop (k + 1) := by
  have e : (c.set k v).drop (k + 1) = c.drop (k + 1) := by rw [List.drop_set]; simp
  rw [e]
  have := congrArg (List.drop 1) h
  simpa [List.drop_drop, Nat.add_comm] using this
theorem take_set_snoc {α : Type} {c : List α} {k : Nat} {v : α} (h : k < c.length) : (c.set k v).take (k + 1) = c.take k ++ [v] := by
  rw [take_snoc (z := v) (by simpa using h), List.take_set_of_le (Nat.le_refl _)]
  simp [List.getD_eq_getElem?_getD, h]

def lb_slices_Compact_int_0 : PC := .seq (.seq (.reg [.s (.mv 29 (.t 5)), .s (.mv 30 (.t 4)), .s (.len 31 false (.t 30)), .s (.bin 32 .lss (.t 29) (.t 31))]) (.cond (.t 32) (.skip) (.exit 2))) (.seq (.blk 3 (.seq (.rgd [] [.s (.mv 35 (.t 4)), .s (.mv 36 (.t 5)), .s (.ia 37 (.int .i64) (.t 35) (.t 36)), .s (.load 38 false 1 (.t 37)), .s (.mv 39 (.t 4)), .s (.mv 40 (.t 5)), .s (.bin 41 .sub (.t 40) (.k (.v (.c (.int .i64 1))))), .s (.ia 42 (.int .i64) (.t 39) (.t 41)), .s (.load 43 false 1 (.t 42)), .s (.bin 44 .neq (.t 38) (.t 43))] (.tk 0 (.tk 1 (.tk 2 (.tk 3 (.tk 4 (.tk 5 (.tk 6 (.tk 7 (.tk 8 (.tk 9 (.done none)))))))))))) (.cond (.t 44) (.seq (.reg [.s (.mv 45 (.t 0)), .s (.mv 46 (.t 3)), .s (.mv 47 (.t 4)), .s (.mv 48 (.t 5)), .s (.ia 49 (.int .i64) (.t 47) (.t 48)), .s (.load 50 false 1 (.t 49)), .s (.ia 51 (.int .i64) (.t 45) (.t 46)), .s (.store 1 (.t 51) (.t 50))]) (.reg [.s (.mv 52 (.t 3)), .s (.bin 53 .add (.t 52) (.k (.v (.c (.int .i64 1))))), .s (.mv 3 (.t 53))])) (.skip)))) (.reg [.s (.mv 33 (.t 5)), .s (.bin 34 .add (.t 33) (.k (.v (.c (.int .i64 1))))), .s (.mv 5 (.t 34))]))
def lb_slices_Compact_int_1 : PC := .seq (.seq (.reg [.s (.mv 10 (.t 3)), .s (.mv 11 (.t 0)), .s (.len 12 false (.t 11)), .s (.bin 13 .lss (.t 10) (.t 12))]) (.cond (.t 13) (.skip) (.exit 0))) (.seq (.blk 1 (.seq (.rgd [] [.s (.mv 16 (.t 0)), .s (.mv 17 (.t 3)), .s (.ia 18 (.int .i64) (.t 16) (.t 17)), .s (.load 19 false 1 (.t 18)), .s (.mv 20 (.t 0)), .s (.mv 21 (.t 3)), .s (.bin 22 .sub (.t 21) (.k (.v (.c (.int .i64 1))))), .s (.ia 23 (.int .i64) (.t 20) (.t 22)), .s (.load 24 false 1 (.t 23)), .s (.bin 25 .eql (.t 19) (.t 24))] (.tk 0 (.tk 1 (.tk 2 (.tk 3 (.tk 4 (.tk 5 (.tk 6 (.tk 7 (.tk 8 (.tk 9 (.done none)))))))))))) (.cond (.t 25) (.seq (.reg [.s (.mv 26 (.t 0)), .s (.mv 27 (.t 3)), .s (.slc 28 (.int .i64) (.t 26) (some (.t 27)) none), .s (.mv 4 (.t 28))]) (.seq (.seq (.reg [.s (.mv 5 (.k (.v (.c (.int .i64 1)))))]) (.blk 2 (.loop [0, 3, 4, 5] lb_slices_Compact_int_0))) (.seq (.reg [.s (.mv 54 (.t 0)), .s (.mv 55 (.t 3)), .s (.slc 56 (.int .i64) (.t 54) (some (.t 55)) none), .s (.clr (.int .i64) (.t 56))]) (.seq (.reg [.s (.mv 57 (.t 0)), .s (.mv 58 (.t 3)), .s (.slc 59 (.int .i64) (.t 57) none (some (.t 58))), .s (.mv 2 (.t 59))]) (.ret))))) (.skip)))) (.reg [.s (.mv 14 (.t 3)), .s (.bin 15 .add (.t 14) (.k (.v (.c (.int .i64 1))))), .s (.mv 3 (.t 15))]))
def pf_slices_Compact_int : PF := ⟨[.t 2], .seq (.reg [.s (.mv 2 (.k (.v (.c (.nils (.int .i64))))))]) (.seq (.seq (.reg [.s (.mv 6 (.t 0)), .s (.len 7 false (.t 6)), .s (.bin 8 .lss (.t 7) (.k (.v (.c (.int .i64 2)))))]) (.cond (.t 8) (.seq (.reg [.s (.mv 9 (.t 0)), .s (.mv 2 (.t 9))]) (.ret)) (.skip))) (.seq (.seq (.reg [.s (.mv 3 (.k (.v (.c (.int .i64 1)))))]) (.blk 0 (.loop [0, 3] lb_slices_Compact_int_1))) (.seq (.reg [.s (.mv 60 (.t 0)), .s (.mv 2 (.t 60))]) (.ret))))⟩
def c_slices_Compact_int : Fun := ⟨29, [true], fun ts K => as1 ts fun t0 => arC (pO (.int .i64)) t0 fun s => chk (s.length ≤ 2147483647) (K (tL true (.int .i64) (compI s)) ([.v (.c .unk)]))⟩
theorem run_slices_Compact_int (s : List (FT.Ty (.int .i64))) (hpre : s.length ≤ 2147483647) : runK [] (s.length + 1) [true] pf_slices_Compact_int [tL true (.int .i64) s] fun r o => r = tL true (.int .i64) (compI s) ∧ o = [.v (.c .unk)] := by
  conv => whnf
  repeat' (first | (refine sel_i (fun h => ?_) (fun h => ?_) <;> conv => whnf) | (refine chk_c ?_ ?_ <;> conv => whnf) | (refine And.intro ?_ rfl) | (refine And.intro ?_ ?_ <;> conv => whnf))
  · have hl : s.length < 2 := by have := of_decide_eq_true h; omega
    have e : compI s = s := by
      match s, hl with
      | [], _ => rfl
      | [x], _ => rfl
    rw [e]
  · have hl : 2 ≤ s.length := by have := of_decide_eq_false h; omega
    refine loop (α := Nat) (fun k => ⟨[(0, .v (.c (.sl false (.int .i64) 0))), (3, .v (.c (.int .i64 (k : Int))))], [(0, some (.flat true (.int .i64) none s))], nums.tail, [.v (.c (.sl false (.int .i64) 0))], false, []⟩)
      (fun k => 1 ≤ k ∧ k ≤ s.length ∧ compI (s.take k) = s.take k) (fun k => s.length - k) (fun k R hI hR => ?_) 1 _ ⟨by omega, by omega, by
        match s, hl with
        | x :: y :: xs, _ => rfl⟩ (by omega)
    obtain ⟨hk1, hk, hx⟩ := hI
    have w1 : IntKind.i64.wrap ((k : Int) - 1) = (k : Int) - 1 := wrap_id (by omega) (by omega)
    have t1 : ((k : Int) - 1).toNat = k - 1 := by omega
    conv => whnf
    repeat' (first | (refine sel_i (fun h => ?_) (fun h => ?_) <;> conv => whnf) | (refine chk_c ?_ ?_ <;> conv => whnf) | (refine And.intro ?_ rfl) | (refine And.intro ?_ ?_ <;> conv => whnf))
    all_goals (try simp only [w1, t1, Int.toNat_natCast, decide_eq_true_eq, decide_eq_false_iff_not, beq_iff_eq, beq_eq_false_iff_ne] at *)
    all_goals first
      | (refine ⟨?_⟩; omega)
      | (rw [List.take_of_length_le (by omega)] at hx; rw [hx]; done)
      | (rw [wrap_id (n := (k : Int) + 1) (by omega) (by omega)]; exact hR (k + 1) ⟨by omega, by omega, by rw [compI_step (by omega) (by omega), if_neg (by assumption), hx, take_snoc (z := FT.zero (.int .i64)) (by omega)]⟩ (by omega))
      | skip
    rename_i hlt
    have hs2 : ((s.length : Int) - k).toNat = s.length - k := by omega
    rw [Nat.zero_add, hs2]
    clear hR
    refine loop (α := Nat × Nat × List Int) (fun p => ⟨[(0, .v (.c (.sl false (.int .i64) 0))), (3, .v (.c (.int .i64 (p.1 : Int)))), (4, .v (.c (.slp false (.int .i64) 0 k (s.length - k)))), (5, .v (.c (.int .i64 (p.2.1 : Int))))], [(0, some (.flat true (.int .i64) none p.2.2))], nums.tail, [.v (.c (.sl false (.int .i64) 0))], false, []⟩)
      (fun p => k ≤ p.1 ∧ p.1 + 1 ≤ k + p.2.1 ∧ k + p.2.1 ≤ s.length ∧ p.2.2.length = s.length ∧ p.2.2.take p.1 = compI (s.take (k + p.2.1)) ∧ p.2.2.drop p.1 = s.drop p.1) (fun p => s.length - k - p.2.1) (fun p R hI hR => ?_) (k, 1, s) _
      ⟨by simp, by simp, by dsimp only; omega, rfl, by dsimp only; rw [compI_step (by omega) (by omega), if_pos h, hx], rfl⟩ (by dsimp only; omega)
    obtain ⟨a, b, c⟩ := p
    obtain ⟨h1, h2, h3, h4, h5, h6⟩ := hI
    dsimp only at h1 h2 h3 h4 h5 h6 ⊢
    have w2 : IntKind.i64.wrap ((b : Int) - 1) = (b : Int) - 1 := wrap_id (by omega) (by omega)
    have t2 : ((b : Int) - 1).toNat = b - 1 := by omega
    conv => whnf
    repeat' (first | (refine sel_i (fun h => ?_) (fun h => ?_) <;> conv => whnf) | (refine chk_c ?_ ?_ <;> conv => whnf) | (refine And.intro ?_ rfl) | (refine And.intro ?_ ?_ <;> conv => whnf))
    all_goals (try simp only [w2, t2, Int.toNat_natCast, decide_eq_true_eq, decide_eq_false_iff_not, bne_iff_ne, bne_eq_false_iff_eq, ne_eq] at *)
    all_goals first
      | (refine ⟨?_⟩; omega)
      | skip
    · rw [wrap_id (n := (a : Int) + 1) (by omega) (by omega), wrap_id (n := (b : Int) + 1) (by omega) (by omega)]
      refine hR (a + 1, b + 1, c.set a (c.getD (k + b) (FT.zero (.int .i64)))) ⟨by dsimp only; omega, by dsimp only; omega, by dsimp only; omega, by dsimp only; simpa using h4, ?_, drop_set h6⟩ (by dsimp only; omega)
      dsimp only
      have g1 := dropK_getD (FT.zero (.int .i64)) h6 (show a ≤ k + b by omega)
      have g2 := dropK_getD (FT.zero (.int .i64)) h6 (show a ≤ k + (b - 1) by omega)
      rw [g1, g2] at h
      rw [take_set_snoc (by omega), show k + (b + 1) = (k + b) + 1 by omega, compI_step (by omega) (by omega), show k + b - 1 = k + (b - 1) by omega, if_neg h, h5, g1]
    · rw [wrap_id (n := (b : Int) + 1) (by omega) (by omega)]
      refine hR (a, b + 1, c) ⟨h1, by dsimp only; omega, by dsimp only; omega, h4, ?_, h6⟩ (by dsimp only; omega)
      dsimp only
      have g1 := dropK_getD (FT.zero (.int .i64)) h6 (show a ≤ k + b by omega)
      have g2 := dropK_getD (FT.zero (.int .i64)) h6 (show a ≤ k + (b - 1) by omega)
      rw [g1, g2] at h
      rw [show k + (b + 1) = (k + b) + 1 by omega, compI_step (by omega) (by omega), show k + b - 1 = k + (b - 1) by omega, if_pos h, h5]
    · refine ⟨?_⟩
      rw [over_len0 _ _ _ (by rw [List.length_replicate]; omega)]; omega
    · rw [over_take _ _ _ (by omega), h5, List.take_of_length_le (by omega)]
theorem ok_slices_Compact_int : FunOk Tryz.prog c_slices_Compact_int := funOk (E := []) (envOk_nil) mixd Tryz.func29 (pf := pf_slices_Compact_int) (by kernel_rfl) fun ts K h => by
  obtain ⟨t0, e0, h⟩ := as1_out h
  subst e0
  obtain ⟨s, e1, hq⟩ := arC_out (rd_o (.int .i64)) h
  clear h
  subst e1
  have h := hq
  clear hq
  obtain ⟨hpre, h⟩ := chk_o h
  exact ⟨_, _, h, Nat.le_of_ble_eq_true (show Nat.ble 1 Tryz.f29.ntmps = true by kernel_rfl), _, run_slices_Compact_int s hpre⟩

def addrS (l : List Seen) : List Int := (l.filter (fun x => decide (0 ≤ x.addr))).map (fun x => x.addr)
def touched (l : List Seen) : List Int := setI (addrS l)
theorem addrS_snoc {l : List Seen} {m : Nat} (h : m < l.length) : addrS (l.take (m + 1)) = if 0 ≤ (l.getD m (FT.zero .seen)).addr then addrS (l.take m) ++ [(l.getD m (FT.zero .seen)).addr] else addrS (l.take m) := by
  unfold addrS
  rw [take_snoc (z := FT.zero .seen) h, List.filter_append, List.map_append]
  generalize l.getD m (FT.zero .seen) = v
  by_cases hv : 0 ≤ v.addr
  · simp [hv]
  · simp [hv]
theorem addrS_len (l : List Seen) : (addrS l).length ≤ l.length := by
  unfold addrS; rw [List.length_map]; exact List.length_filter_le _ _
theorem touched_len (l : List Seen) : (touched l).length ≤ l.length := Nat.le_trans (setI_len _) (addrS_len l)

def lb_impl_Touched_0 : PC := .seq (.reg [.s (.bin 10 .lss (.t 9) (.t 8))]) (.seq (.cond (.t 10) (.skip) (.exit 0)) (.seq (.blk 1 (.seq (.reg [.s (.ia 11 .seen (.t 7) (.t 9)), .s (.load 12 true 4 (.t 11)), .s (.alloc 5 [.int .i64 0, .int .i64 0, .int .i64 0, .int .i64 0]), .s (.store 4 (.t 5) (.t 12))]) (.seq (.reg [.s (.fa 13 (.t 5) 2), .s (.load 14 false 1 (.t 13)), .s (.bin 15 .geq (.t 14) (.k (.v (.c (.int .i64 0)))))]) (.cond (.t 15) (.reg [.s (.mv 16 (.t 3)), .s (.fa 17 (.t 5) 2), .s (.load 18 false 1 (.t 17)), .s (.bs 19 (.int .i64) [(.t 18)]), .s (.app 20 (.int .i64) (.t 16) (.t 19)), .s (.mv 3 (.t 20))]) (.skip))))) (.reg [.s (.bin 21 .add (.t 9) (.k (.v (.c (.int .i64 1))))), .s (.mv 9 (.t 21))])))
def pf_impl_Touched : PF := ⟨[.t 2], .seq (.reg [.s (.mv 2 (.k (.v (.c (.nils (.int .i64))))))]) (.seq (.reg [.s (.bs 6 (.int .i64) []), .s (.mv 3 (.t 6))]) (.seq (.seq (.reg [.s (.mv 7 (.t 0)), .s (.len 8 false (.t 7)), .s (.mv 9 (.k (.v (.c (.int .i64 0)))))]) (.blk 0 (.loop [3, 7, 8, 9] lb_impl_Touched_0))) (.seq (.reg [.s (.mv 22 (.t 3)), .s (.call (some 23) 28 [(.t 22)])]) (.seq (.reg [.s (.mv 24 (.t 3)), .s (.call (some 25) 29 [(.t 24)]), .s (.mv 2 (.t 25))]) (.ret)))))⟩
def c_impl_Touched : Fun := ⟨11, [], fun ts K => as1 ts fun t0 => arC (pL .seen) t0 fun l => chk (l.length ≤ 2147483647) (K (tL true (.int .i64) (touched l)) [])⟩
theorem run_impl_Touched (l : List (FT.Ty .seen)) (hpre : l.length ≤ 2147483647) : runK [c_slices_Sort_int, c_slices_Compact_int] (l.length + 1) [] pf_impl_Touched [tL false .seen l] fun r o => r = tL true (.int .i64) (touched l) ∧ o = [] := by
  conv => whnf
  refine loop (α := Nat) (fun k => ⟨[(3, .v (.c (.sl true (.int .i64) 0))), (7, .v (.c (.sl false .seen 1))), (8, .v (.c (.int .i64 (l.length : Int)))), (9, .v (.c (.int .i64 (k : Int))))], [(1, some (.flat false .seen none l)), (0, some (.flat true (.int .i64) none (addrS (l.take k))))], nums.tail.tail, [], false, []⟩)
    (fun k => k ≤ l.length) (fun k => l.length - k) (fun k R hI hR => ?_) 0 _ (by omega) (by omega)
  have hl := addrS_len (l.take k)
  rw [List.length_take] at hl
  have w3 : IntKind.i64.wrap ((k : Int) + 1) = ((k + 1 : Nat) : Int) := by rw [wrap_id (by omega) (by omega)]; rfl
  have hs := @addrS_snoc l k
  have hend : l.length ≤ k → setI (addrS (l.take k)) = touched l := fun h => by rw [List.take_of_length_le h]; rfl
  have hR := hR (k + 1)
  conv => whnf
  repeat' (first | (refine sel_i (fun h => ?_) (fun h => ?_) <;> conv => whnf) | (refine chk_c ?_ ?_ <;> conv => whnf) | (refine And.intro ?_ rfl) | (refine And.intro ?_ ?_ <;> conv => whnf))
  all_goals (simp only [w3, Int.toNat_natCast, decide_eq_true_eq, decide_eq_false_iff_not, ge_iff_le] at *)
  all_goals first
    | (refine ⟨?_⟩; (try simp only [List.length_cons, List.length_nil]); omega)
    | (refine ⟨?_⟩; rw [sortI_len]; done)
    | (refine ⟨?_⟩; rw [sortI_len]; omega)
    | (rw [show compI (sortI _) = setI _ from rfl, hend (by omega)]; done)
    | (rw [hs (by omega), if_pos (by assumption)] at hR; exact hR (by omega) (by omega))
    | (rw [hs (by omega), if_neg (by assumption)] at hR; exact hR (by omega) (by omega))
    | trace_state
theorem ok_impl_Touched : FunOk Tryz.prog c_impl_Touched := funOk (E := [c_slices_Sort_int, c_slices_Compact_int]) (envOk_cons ok_slices_Sort_int (envOk_cons ok_slices_Compact_int (envOk_nil))) mixd Tryz.func11 (pf := pf_impl_Touched) (by kernel_rfl) fun ts K h => by
  obtain ⟨t0, e0, h⟩ := as1_out h
  subst e0
  obtain ⟨l, e1, hq⟩ := arC_out (rd_l .seen) h
  clear h
  subst e1
  have h := hq
  clear hq
  obtain ⟨hpre, h⟩ := chk_o h
  exact ⟨_, _, h, Nat.le_of_ble_eq_true (show Nat.ble 1 Tryz.f11.ntmps = true by kernel_rfl), _, run_impl_Touched l hpre⟩

theorem insI_at (z : Int) : ∀ (o : List Int) (a : Int) (k : Nat), k ≤ o.length → (∀ j, j < k → o.getD j z < a) → (k = o.length ∨ ¬ o.getD k z < a) →
    insI a o = if k < o.length ∧ o.getD k z = a then o else o.take k ++ a :: o.drop k
  | [], a, k, h0, _, _ => by
    have : k = 0 := by simpa using h0
    subst this; rfl
  | y :: ys, a, 0, h0, h1, h2 => by
    have h2 : ¬ y < a := by
      rcases h2 with h2 | h2
      · simp at h2
      · simpa using h2
    have e : insI a (y :: ys) = if y < a then y :: insI a ys else if y = a then y :: ys else a :: y :: ys := rfl
    rw [e, if_neg h2]
    by_cases hy : y = a
    · rw [if_pos hy, if_pos ⟨by simp, by simpa using hy⟩]
    · rw [if_neg hy, if_neg (fun h => hy (by simpa using h.2))]; rfl
  | y :: ys, a, k + 1, h0, h1, h2 => by
    have hy : y < a := by simpa using h1 0 (by omega)
    have e : insI a (y :: ys) = if y < a then y :: insI a ys else if y = a then y :: ys else a :: y :: ys := rfl
    have ih := insI_at z ys a k (by simpa using h0) (fun j hj => by simpa using h1 (j + 1) (by omega)) (by simpa using h2)
    rw [e, if_pos hy, ih]
    by_cases hk : k < ys.length ∧ ys.getD k z = a
    · rw [if_pos hk, if_pos ⟨by simpa using hk.1, by simpa using hk.2⟩]
    · rw [if_neg hk, if_neg (fun h => hk ⟨by simpa using h.1, by simpa using h.2⟩)]; simp
def insAll (l : List Seen) : List Int := (addrS l).foldl (fun o a => insI a o) []
theorem insAll_touched (l : List Seen) : insAll l = touched l := (setI_fold (addrS l)).symm
theorem insAll_snoc {l : List Seen} {m : Nat} (h : m < l.length) : insAll (l.take (m + 1)) = if 0 ≤ (l.getD m (FT.zero .seen)).addr then insI (l.getD m (FT.zero .seen)).addr (insAll (l.take m)) else insAll (l.take m) := by
  unfold insAll
  rw [addrS_snoc h]
  split
  · rw [List.foldl_append]; rfl
  · rfl
theorem insAll_len (l : List Seen) : (insAll l).length ≤ l.length := by rw [insAll_touched]; exact touched_len l

def lb_spec_Touched_0 : PC := .seq (.seq (.reg [.s (.mv 22 (.t 6)), .s (.mv 23 (.t 3)), .s (.len 24 false (.t 23)), .s (.bin 25 .lss (.t 22) (.t 24)), .s (.mv 26 (.t 25)), .g 26 true (some 27) (.mv 27 (.t 3)), .g 26 true (some 28) (.mv 28 (.t 6)), .g 26 true (some 29) (.ia 29 (.int .i64) (.t 27) (.t 28)), .g 26 true (some 30) (.load 30 false 1 (.t 29)), .g 26 true (some 31) (.mv 31 (.t 5)), .g 26 true (some 32) (.bin 32 .lss (.t 30) (.t 31)), .s (.pick 33 (.t 26) (.t 32) (.k (.v (.c .ff))))]) (.cond (.t 33) (.skip) (.exit 2))) (.blk 3 (.reg [.s (.mv 34 (.t 6)), .s (.bin 35 .add (.t 34) (.k (.v (.c (.int .i64 1))))), .s (.mv 6 (.t 35))]))
def lb_spec_Touched_1 : PC := .seq (.seq (.reg [.s (.mv 9 (.t 4)), .s (.mv 10 (.t 0)), .s (.len 11 false (.t 10)), .s (.bin 12 .lss (.t 9) (.t 11))]) (.cond (.t 12) (.skip) (.exit 0))) (.seq (.blk 1 (.seq (.reg [.s (.mv 15 (.t 0)), .s (.mv 16 (.t 4)), .s (.ia 17 .seen (.t 15) (.t 16)), .s (.fa 18 (.t 17) 2), .s (.load 19 false 1 (.t 18)), .s (.mv 5 (.t 19))]) (.seq (.seq (.reg [.s (.mv 20 (.t 5)), .s (.bin 21 .lss (.t 20) (.k (.v (.c (.int .i64 0)))))]) (.cond (.t 21) (.exit 1) (.skip))) (.seq (.reg [.s (.mv 6 (.k (.v (.c (.int .i64 0)))))]) (.seq (.blk 2 (.loop [0, 3, 4, 5, 6] lb_spec_Touched_0)) (.seq (.seq (.reg [.s (.mv 36 (.t 6)), .s (.mv 37 (.t 3)), .s (.len 38 false (.t 37)), .s (.bin 39 .lss (.t 36) (.t 38)), .s (.mv 40 (.t 39)), .g 40 true (some 41) (.mv 41 (.t 3)), .g 40 true (some 42) (.mv 42 (.t 6)), .g 40 true (some 43) (.ia 43 (.int .i64) (.t 41) (.t 42)), .g 40 true (some 44) (.load 44 false 1 (.t 43)), .g 40 true (some 45) (.mv 45 (.t 5)), .g 40 true (some 46) (.bin 46 .eql (.t 44) (.t 45)), .s (.pick 47 (.t 40) (.t 46) (.k (.v (.c .ff))))]) (.cond (.t 47) (.exit 1) (.skip))) (.seq (.reg [.s (.bs 48 (.int .i64) []), .s (.mv 49 (.t 3)), .s (.mv 50 (.t 6)), .s (.slc 51 (.int .i64) (.t 49) none (some (.t 50))), .s (.app 52 (.int .i64) (.t 48) (.t 51)), .s (.mv 7 (.t 52))]) (.seq (.reg [.s (.mv 53 (.t 7)), .s (.mv 54 (.t 5)), .s (.bs 55 (.int .i64) [(.t 54)]), .s (.app 56 (.int .i64) (.t 53) (.t 55)), .s (.mv 7 (.t 56))]) (.reg [.s (.mv 57 (.t 7)), .s (.mv 58 (.t 3)), .s (.mv 59 (.t 6)), .s (.slc 60 (.int .i64) (.t 58) (some (.t 59)) none), .s (.app 61 (.int .i64) (.t 57) (.t 60)), .s (.mv 3 (.t 61))]))))))))) (.reg [.s (.mv 13 (.t 4)), .s (.bin 14 .add (.t 13) (.k (.v (.c (.int .i64 1))))), .s (.mv 4 (.t 14))]))
def pf_spec_Touched : PF := ⟨[.t 2], .seq (.reg [.s (.mv 2 (.k (.v (.c (.nils (.int .i64))))))]) (.seq (.reg [.s (.bs 8 (.int .i64) []), .s (.mv 3 (.t 8))]) (.seq (.seq (.reg [.s (.mv 4 (.k (.v (.c (.int .i64 0)))))]) (.blk 0 (.loop [0, 3, 4] lb_spec_Touched_1))) (.seq (.reg [.s (.mv 62 (.t 3)), .s (.mv 2 (.t 62))]) (.ret))))⟩
def c_spec_Touched : Fun := ⟨12, [], fun ts K => as1 ts fun t0 => arC (pL .seen) t0 fun l => chk (l.length ≤ 2147483647) (K (tL true (.int .i64) (touched l)) [])⟩
theorem run_spec_Touched (l : List (FT.Ty .seen)) (hpre : l.length ≤ 2147483647) : runK [] (l.length + 1) [] pf_spec_Touched [tL false .seen l] fun r o => r = tL true (.int .i64) (touched l) ∧ o = [] := by
  rw [← insAll_touched]
  conv => whnf
  refine loop (α := Nat) (fun k => ⟨[(0, .v (.c (.sl false .seen 0))), (3, .v (.c (.sl true (.int .i64) 1))), (4, .v (.c (.int .i64 (k : Int))))], [(1, some (.flat true (.int .i64) none (insAll (l.take k)))), (0, some (.flat false .seen none l))], nums.tail.tail, [], false, []⟩)
    (fun k => k ≤ l.length) (fun k => l.length - k) (fun k R hI hR => ?_) 0 _ (by omega) (by omega)
  have hl := insAll_len (l.take k)
  rw [List.length_take] at hl
  have w3 : IntKind.i64.wrap ((k : Int) + 1) = ((k + 1 : Nat) : Int) := by rw [wrap_id (by omega) (by omega)]; rfl
  have hs := @insAll_snoc l k
  have hend : l.length ≤ k → insAll (l.take k) = insAll l := fun h => by rw [List.take_of_length_le h]
  have hR := hR (k + 1)
  conv => whnf
  repeat' (first | (refine sel_i (fun h => ?_) (fun h => ?_) <;> conv => whnf) | (refine chk_c ?_ ?_ <;> conv => whnf) | (refine And.intro ?_ rfl) | (refine And.intro ?_ ?_ <;> conv => whnf))
  all_goals (simp only [w3, Int.toNat_natCast, decide_eq_true_eq, decide_eq_false_iff_not, ge_iff_le] at *)
  all_goals first
    | (refine ⟨?_⟩; (try simp only [List.length_cons, List.length_nil]); omega)
    | (rw [hend (by omega)]; done)
    | (rw [hs (by omega), if_neg (by omega)] at hR; exact hR (by omega) (by omega))
    | skip
  rename_i hlt hpos
  have hs := hs (by omega)
  rw [if_pos (by omega)] at hs
  rw [hs] at hR
  have hR := hR (by omega) (by omega)
  clear hs hend
  generalize (l.getD k FT.seen.zero).addr = a at *
  generalize insAll (l.take k) = o at *
  refine loop (α := Nat) (fun j => ⟨[(0, .v (.c (.sl false .seen 0))), (3, .v (.c (.sl true (.int .i64) 1))), (4, .v (.c (.int .i64 (k : Int)))), (5, .v (.c (.int .i64 a))), (6, .v (.c (.int .i64 (j : Int))))], [(1, some (.flat true (.int .i64) none o)), (0, some (.flat false .seen none l))], nums.tail.tail, [], false, []⟩)
    (fun j => j ≤ o.length ∧ ∀ i, i < j → o.getD i (FT.zero (.int .i64)) < a) (fun j => o.length - j) (fun j R2 hI2 hR2 => ?_) 0 _ ⟨by omega, fun i hi => absurd hi (Nat.not_lt_zero _)⟩ (by omega)
  obtain ⟨hj, hlow⟩ := hI2
  have w4 : IntKind.i64.wrap ((j : Int) + 1) = ((j + 1 : Nat) : Int) := by rw [wrap_id (by omega) (by omega)]; rfl
  have hins := insI_at (FT.zero (.int .i64)) o a j hj hlow
  have w5 : IntKind.i64.wrap ((k : Int) + 1) = ((k + 1 : Nat) : Int) := by rw [wrap_id (by omega) (by omega)]; rfl
  have g1 : win o 0 j = o.take j := by unfold win; rw [List.drop_zero]
  have g2 : win o (0 + j) ((o.length : Int) - j).toNat = o.drop j := by unfold win; rw [Nat.zero_add, List.take_of_length_le (by rw [List.length_drop]; omega)]
  have g3 : (o.take j).length = j := by rw [List.length_take]; omega
  have g4 : (o.drop j).length = o.length - j := List.length_drop
  have hins1 : (j = o.length ∨ ¬ o.getD j (FT.zero (.int .i64)) < a) → (j < o.length ∧ o.getD j (FT.zero (.int .i64)) = a) → insI a o = o := fun q1 q2 => by rw [hins q1, if_pos q2]
  have hins2 : (j = o.length ∨ ¬ o.getD j (FT.zero (.int .i64)) < a) → ¬ (j < o.length ∧ o.getD j (FT.zero (.int .i64)) = a) → insI a o = o.take j ++ [a] ++ o.drop j := fun q1 q2 => by rw [hins q1, if_neg q2]; simp
  clear hins
  conv => whnf
  repeat' (first | (refine sel_i (fun h => ?_) (fun h => ?_) <;> conv => whnf) | (refine chk_c ?_ ?_ <;> conv => whnf) | (refine And.intro ?_ rfl) | (refine And.intro ?_ ?_ <;> conv => whnf))
  all_goals (simp only [w5, w4, g1, g2, Int.toNat_natCast, decide_eq_true_eq, decide_eq_false_iff_not, beq_iff_eq, beq_eq_false_iff_ne, List.nil_append] at *)
  all_goals first
    | (refine ⟨?_⟩; simp only [List.length_append, List.length_cons, List.length_nil, g3, g4] at *; omega)
    | (refine ⟨?_⟩; omega)
    | (exact hR2 (j + 1) ⟨by omega, fun i hi => by
        by_cases e : i = j
        · rw [e]; assumption
        · exact hlow i (by omega)⟩ (by omega))
    | (rw [hins1 (by first | exact .inr (by assumption) | exact .inl (by omega)) ⟨by omega, by assumption⟩] at hR; exact hR)
    | (rw [hins2 (by first | exact .inr (by assumption) | exact .inl (by omega)) (fun q => by first | omega | (exact absurd q.2 (by assumption)))] at hR; exact hR)
    | (exfalso; omega)
    | trace_state
theorem ok_spec_Touched : FunOk Tryz.prog c_spec_Touched := funOk (E := []) (envOk_nil) mixd Tryz.func12 (pf := pf_spec_Touched) (by kernel_rfl) fun ts K h => by
  obtain ⟨t0, e0, h⟩ := as1_out h
  subst e0
  obtain ⟨l, e1, hq⟩ := arC_out (rd_l .seen) h
  clear h
  subst e1
  have h := hq
  clear hq
  obtain ⟨hpre, h⟩ := chk_o h
  exact ⟨_, _, h, Nat.le_of_ble_eq_true (show Nat.ble 1 Tryz.f12.ntmps = true by kernel_rfl), _, run_spec_Touched l hpre⟩

/-! the core: what it is made of -/
def LCore (c : Core) (n : Nat) : Prop := LState c.s n ∧ c.rob.length ≤ n ∧ c.guesses.length ≤ n
theorem LCore.mono {c : Core} {n m : Nat} (h : LCore c n) (k : n ≤ m) : LCore c m := ⟨h.1.mono k, Nat.le_trans h.2.1 k, Nat.le_trans h.2.2 k⟩





def Fit (c : Core) : Prop := LenOk c.s ∧ c.rob.length ≤ 7 ∧ c.guesses.length = 48
theorem Fit.l {c : Core} (h : Fit c) : LCore c 2147483647 := by
  obtain ⟨h1, h2, h3⟩ := h
  exact ⟨h1.l, by omega, by omega⟩



/-! costs grow -/

/-! a core that is right stays so -/

theorem beqB (b : ByteArray) : (b == b) = true := by rw [beq_toListBytes]; simp

def Sm (x : Seen) : Prop := (-1 ≤ x.at_ ∧ x.at_ ≤ 10) ∧ (-1 ≤ x.r ∧ x.r ≤ 10) ∧ (-1 ≤ x.addr ∧ x.addr ≤ 10)
theorem Sm.inS {x : Seen} (h : Sm x) : InS x := by
  obtain ⟨h1, h2, h3⟩ := h
  exact ⟨⟨by omega, by omega⟩, ⟨by omega, by omega⟩, ⟨by omega, by omega⟩⟩
theorem kSeen {K : Tree → List Tree → Prop} {o : List Tree} {P : Seen → Prop} (hK : ∀ w : Seen, P w → K (tG (w.tc [])) o) (a b c d : Int) (h : P ⟨a, b, c, d⟩) : K (.v (.g [.int .i64 a, .int .i64 b, .int .i64 c, .int .i64 d])) o := hK ⟨a, b, c, d⟩ h

def pf_spec_l26DrawSeen : PF := ⟨[.c 2 true 4], .seq (.reg [.s (.alloc 2 [.int .i64 0, .int .i64 0, .int .i64 0, .int .i64 0])]) (.seq (.reg [.s (.mv 6 (.t 0)), .s (.call (some 7) 26 [(.t 6), (.k (.v (.c (.int .i64 5))))]), .s (.bin 8 .sub (.t 7) (.k (.v (.c (.int .i64 1))))), .s (.mv 3 (.t 8))]) (.seq (.reg [.s (.mv 9 (.t 0)), .s (.call (some 10) 26 [(.t 9), (.k (.v (.c (.int .i64 4))))]), .s (.bin 11 .sub (.t 10) (.k (.v (.c (.int .i64 1))))), .s (.mv 4 (.t 11))]) (.seq (.reg [.s (.mv 12 (.t 0)), .s (.call (some 13) 26 [(.t 12), (.k (.v (.c (.int .i64 6))))]), .s (.bin 14 .sub (.t 13) (.k (.v (.c (.int .i64 1))))), .s (.mv 5 (.t 14))]) (.seq (.reg [.s (.mv 15 (.t 3)), .s (.mv 16 (.t 4)), .s (.mv 17 (.t 5)), .s (.mv 18 (.t 0)), .s (.call (some 19) 26 [(.t 18), (.k (.v (.c (.int .i64 8))))]), .s (.bin 20 .sub (.t 19) (.k (.v (.c (.int .i64 1))))), .s (.build 21 [.int .i64 0, .int .i64 0, .int .i64 0, .int .i64 0] [(0, 1, (.t 15)), (1, 1, (.t 16)), (2, 1, (.t 17)), (3, 1, (.t 20))]), .s (.store 4 (.t 2) (.t 21))]) (.ret)))))⟩
def c_spec_l26DrawSeen : Fun := ⟨27, [true], fun ts K => as1 ts fun t0 => arQ pCurT t0 fun c => chk (CurOk c) (∀ (x : Seen) (d : Cur), (Sm x ∧ CurOk d) → K (tG (x.tc [])) ([curOut d]))⟩
theorem run_spec_l26DrawSeen (c : Cur) (hpre : CurOk c) {K : Tree → List Tree → Prop} (hK : ∀ (x : Seen) (d : Cur), (Sm x ∧ CurOk d) → K (tG (x.tc [])) ([curOut d])) : runK [c_spec_l1Below] (0) [true] pf_spec_l26DrawSeen [.v (.ptr true 0 (c.tc []))] K := by
  conv => whnf
  refine chk_i hpre ?_
  conv => whnf
  intro a d1 h1
  conv => whnf
  refine chk_i h1.2 ?_
  conv => whnf
  intro b d2 h2
  conv => whnf
  refine chk_i h2.2 ?_
  conv => whnf
  intro e d3 h3
  have h1 := h1.1
  have h2 := h2.1
  have h3' := h3.1
  conv => whnf
  repeat' (first | (refine sel_i (fun h => ?_) (fun h => ?_) <;> conv => whnf) | (refine chk_c ?_ ?_ <;> conv => whnf) | (refine And.intro ?_ rfl) | (refine And.intro ?_ ?_ <;> conv => whnf) | (intro x y z d hd; (try have g1 := And.left hd); (try have g2 := And.right hd); (try have g3 := And.left (And.right hd)); (try have g4 := And.right (And.right hd)); conv => whnf) | (intro x y d hd; (try have g1 := And.left hd); (try have g2 := And.right hd); (try have g3 := And.left (And.right hd)); (try have g4 := And.right (And.right hd)); conv => whnf) | (intro x d hd; (try have g1 := And.left hd); (try have g2 := And.right hd); (try have g3 := And.left (And.right hd)); (try have g4 := And.right (And.right hd)); conv => whnf) | (intro d hd; (try have g1 := And.left hd); (try have g2 := And.right hd); (try have g3 := And.left (And.right hd)); (try have g4 := And.right (And.right hd)); conv => whnf))
  all_goals first
    | (refine ⟨?_⟩; exact h3.2)
    | (rw [wrap_id (n := a - 1) (by omega) (by omega), wrap_id (n := b - 1) (by omega) (by omega), wrap_id (n := e - 1) (by omega) (by omega)]
       exact kSeen (fun w hw => hK w _ hw) _ _ _ _ ⟨⟨⟨by dsimp only; omega, by dsimp only; omega⟩, ⟨by dsimp only; omega, by dsimp only; omega⟩, ⟨by dsimp only; omega, by dsimp only; omega⟩⟩, hd.2⟩)
    | trace_state
theorem ok_spec_l26DrawSeen : FunOk Tryz.prog c_spec_l26DrawSeen := funOkR (E := [c_spec_l1Below]) (envOk_cons ok_spec_l1Below (envOk_nil)) mixd Tryz.func27 (pf := pf_spec_l26DrawSeen) (by kernel_rfl) fun ts K h => by
  obtain ⟨t0, e0, h⟩ := as1_out h
  subst e0
  obtain ⟨c, e1, hq⟩ := arQ_out rd_cur h
  clear h
  subst e1
  have h := hq
  clear hq
  obtain ⟨hpre, h⟩ := chk_o h
  exact ⟨Nat.le_of_ble_eq_true (show Nat.ble 1 Tryz.f27.ntmps = true by kernel_rfl), _, run_spec_l26DrawSeen c hpre h⟩

def pf_spec_DrawSeenRun : PF := ⟨[.t 2, .c 3 true 10, .t 4], .seq (.reg [.s (.mv 2 (.k (.v (.c (.nils .inst))))), .s (.alloc 3 [.nils .word, .int .i64 0, .ff, .int .i64 0, .int .i64 0, .int .i64 0, .int .i64 0, .nils .word, .nils .bool, .int .i64 0]), .s (.mv 4 (.k (.v (.c (.int .i64 0)))))]) (.seq (.reg [.s (.mv 8 (.t 0)), .s (.call (some 9) 18 [(.t 8)]), .s (.mv 5 (.t 9))]) (.seq (.reg [.s (.mv 11 (.t 5)), .s (.call (some 12) 19 [(.t 11)]), .s (.mv 10 (.t 12)), .s (.ext 13 (.t 10) 0), .s (.ext 14 (.t 10) 1), .s (.alloc 7 [.nils .word, .int .i64 0, .ff, .int .i64 0, .int .i64 0, .int .i64 0, .int .i64 0, .nils .word, .nils .bool, .int .i64 0]), .s (.mv 6 (.t 13)), .s (.store 10 (.t 7) (.t 14))]) (.seq (.rgd [5] [.s (.mv 15 (.t 6)), .s (.load 16 true 10 (.t 7)), .s (.mv 17 (.t 5)), .s (.bs 18 (.int .i64) [(.k (.v (.c (.int .i64 0)))), (.k (.v (.c (.int .i64 1)))), (.k (.v (.c (.int .i64 5)))), (.k (.v (.c (.int .i64 20)))), (.k (.v (.c (.int .i64 (-1))))), (.k (.v (.c (.int .i64 600)))), (.k (.v (.c (.int .i64 601))))]), .s (.call (some 19) 20 [(.t 17), (.t 18)]), .s (.mv 2 (.t 15)), .s (.store 10 (.t 3) (.t 16)), .s (.mv 4 (.t 19))] (.tk 0 (.tk 1 (.tk 2 (.one 3 false (.one 4 false (.tk 5 (.one 6 true (.tk 7 (.done none)))))))))) (.ret))))⟩
def c_spec_DrawSeenRun : Fun := ⟨5, [], fun ts K => as1 ts fun t0 => arC (pL (.int .u8)) t0 fun code => chk (code.length ≤ 1048576) (∀ (l : List Inst) (s : State) (n : Int), (l.length ≤ 20 ∧ LState s 24) → K (.tup [.c (tl true .inst l), .g (s.tc true []), .c (.int .i64 n)]) [])⟩
theorem run_spec_DrawSeenRun (code : List (FT.Ty (.int .u8))) (hpre : code.length ≤ 1048576) {K : Tree → List Tree → Prop} (hK : ∀ (l : List Inst) (s : State) (n : Int), (l.length ≤ 20 ∧ LState s 24) → K (.tup [.c (tl true .inst l), .g (s.tc true []), .c (.int .i64 n)]) []) : runK [c_spec_l1New, c_spec_l9Draw, c_spec_l1PickInt] (0) [] pf_spec_DrawSeenRun [tL false (.int .u8) code] K := by
  conv => whnf
  refine chk_i hpre ?_
  conv => whnf
  intro d0 h0
  conv => whnf
  refine chk_i h0 ?_
  conv => whnf
  intro l s d1 h1
  conv => whnf
  refine chk_i ⟨h1.2, by decide, by decide⟩ ?_
  conv => whnf
  intro n d2 h2
  conv => whnf
  refine chk_i rfl ?_
  conv => whnf
  exact hK l s n h1.1
theorem ok_spec_DrawSeenRun : FunOk Tryz.prog c_spec_DrawSeenRun := funOkR (E := [c_spec_l1New, c_spec_l9Draw, c_spec_l1PickInt]) (envOk_cons ok_spec_l1New (envOk_cons ok_spec_l9Draw (envOk_cons ok_spec_l1PickInt (envOk_nil)))) mixd Tryz.func5 (pf := pf_spec_DrawSeenRun) (by kernel_rfl) fun ts K h => by
  obtain ⟨t0, e0, h⟩ := as1_out h
  subst e0
  obtain ⟨code, e1, hq⟩ := arC_out (rd_l (.int .u8)) h
  clear h
  subst e1
  have h := hq
  clear hq
  obtain ⟨hpre, h⟩ := chk_o h
  exact ⟨Nat.le_of_ble_eq_true (show Nat.ble 1 Tryz.f5.ntmps = true by kernel_rfl), _, run_spec_DrawSeenRun code hpre h⟩

def lb_spec_DrawTouched_0 : PC := .seq (.seq (.reg [.s (.mv 9 (.t 5)), .s (.mv 10 (.t 3)), .s (.call (some 11) 26 [(.t 10), (.k (.v (.c (.int .i64 7))))]), .s (.bin 12 .lss (.t 9) (.t 11))]) (.cond (.t 12) (.skip) (.exit 0))) (.seq (.blk 1 (.reg [.s (.mv 15 (.t 4)), .s (.mv 16 (.t 3)), .s (.call (some 17) 27 [(.t 16)]), .s (.bs 18 .seen [(.t 17)]), .s (.app 19 .seen (.t 15) (.t 18)), .s (.mv 4 (.t 19))])) (.reg [.s (.mv 13 (.t 5)), .s (.bin 14 .add (.t 13) (.k (.v (.c (.int .i64 1))))), .s (.mv 5 (.t 14))]))
def pf_spec_DrawTouched : PF := ⟨[.t 2], .seq (.reg [.s (.mv 2 (.k (.v (.c (.nils .seen)))))]) (.seq (.reg [.s (.mv 6 (.t 0)), .s (.call (some 7) 18 [(.t 6)]), .s (.mv 3 (.t 7))]) (.seq (.reg [.s (.bs 8 .seen []), .s (.mv 4 (.t 8))]) (.seq (.seq (.reg [.s (.mv 5 (.k (.v (.c (.int .i64 0)))))]) (.blk 0 (.loop [3, 4, 5] lb_spec_DrawTouched_0))) (.seq (.reg [.s (.mv 20 (.t 4)), .s (.mv 2 (.t 20))]) (.ret)))))⟩
def c_spec_DrawTouched : Fun := ⟨8, [], fun ts K => as1 ts fun t0 => arC (pL (.int .u8)) t0 fun code => chk (code.length ≤ 1048576) (∀ (l : List Seen), (l.length ≤ 10) → K (tL true .seen l) [])⟩
theorem run_spec_DrawTouched (FU : Nat) (code : List (FT.Ty (.int .u8))) (hpre : code.length ≤ 1048576) {K : Tree → List Tree → Prop} (hK : ∀ (l : List Seen), (l.length ≤ 10) → K (tL true .seen l) []) : runK [c_spec_l1New, c_spec_l1Below, c_spec_l26DrawSeen] (100 + FU) [] pf_spec_DrawTouched [tL false (.int .u8) code] K := by
  conv => whnf
  refine chk_i hpre ?_
  conv => whnf
  intro d0 hd0
  conv => whnf
  refine loop (α := Nat × Cur × List Seen) (fun q => ⟨[(3, .v (.c (.ptr 0 0))), (4, .v (.c (.sl true .seen 2))), (5, .v (.c (.int .i64 (q.1 : Int))))],
        [(2, some (.flat true .seen none q.2.2)), (1, some (.flat false (.int .u8) none q.2.1.b)), (0, some (.box true (cuC q.2.1 1)))], nums.tail.tail.tail, [], false, []⟩)
      (fun q => q.1 ≤ 7 ∧ CurOk q.2.1 ∧ q.2.2.length = q.1) (fun q => 7 - q.1) (fun q R hI hR => ?_) (0, d0, []) _ ⟨by simp, hd0, rfl⟩ (by show 7 - 0 < 100 + FU; omega)
  obtain ⟨i, e, m⟩ := q
  obtain ⟨hi, he, hm⟩ := hI
  dsimp only at hi he hm hR ⊢
  conv => whnf
  repeat' (first | (refine sel_i (fun h => ?_) (fun h => ?_) <;> conv => whnf) | (refine chk_c ?_ ?_ <;> conv => whnf) | (refine And.intro ?_ rfl) | (refine And.intro ?_ ?_ <;> conv => whnf) | (intro x y z d hd; (try have g1 := And.left hd); (try have g2 := And.right hd); (try have g3 := And.left (And.right hd)); (try have g4 := And.right (And.right hd)); conv => whnf) | (intro x y d hd; (try have g1 := And.left hd); (try have g2 := And.right hd); (try have g3 := And.left (And.right hd)); (try have g4 := And.right (And.right hd)); conv => whnf) | (intro x d hd; (try have g1 := And.left hd); (try have g2 := And.right hd); (try have g3 := And.left (And.right hd)); (try have g4 := And.right (And.right hd)); conv => whnf) | (intro d hd; (try have g1 := And.left hd); (try have g2 := And.right hd); (try have g3 := And.left (And.right hd)); (try have g4 := And.right (And.right hd)); conv => whnf))
  all_goals first
    | (refine ⟨?_⟩; exact he)
    | (refine ⟨?_⟩; exact g2)
    | (refine ⟨?_⟩; exact hd.2)
    | (refine ⟨?_⟩; simp only [List.length_cons, List.length_nil]; omega)
    | exact hK m (by omega)
    | (have h := of_decide_eq_true h
       rw [wrap_id (n := (i : Int) + 1) (by omega) (by omega)]
       refine hR (i + 1, _, m ++ [_]) ⟨?_, hd.2, ?_⟩ ?_
       · dsimp only; omega
       · simp [hm]
       · dsimp only; omega)
    | trace_state
theorem ok_spec_DrawTouched : FunOk Tryz.prog c_spec_DrawTouched := funOkR (E := [c_spec_l1New, c_spec_l1Below, c_spec_l26DrawSeen]) (envOk_cons ok_spec_l1New (envOk_cons ok_spec_l1Below (envOk_cons ok_spec_l26DrawSeen (envOk_nil)))) mixd Tryz.func8 (pf := pf_spec_DrawTouched) (by kernel_rfl) fun ts K h => by
  obtain ⟨t0, e0, h⟩ := as1_out h
  subst e0
  obtain ⟨code, e1, hq⟩ := arC_out (rd_l (.int .u8)) h
  clear h
  subst e1
  have h := hq
  clear hq
  obtain ⟨hpre, h⟩ := chk_o h
  exact ⟨Nat.le_of_ble_eq_true (show Nat.ble 1 Tryz.f8.ntmps = true by kernel_rfl), _, run_spec_DrawTouched 0 code hpre h⟩

def pf_spec_DrawSeenText : PF := ⟨[.c 2 true 4], .seq (.reg [.s (.alloc 2 [.int .i64 0, .int .i64 0, .int .i64 0, .int .i64 0])]) (.seq (.reg [.s (.mv 3 (.t 0)), .s (.call (some 4) 18 [(.t 3)]), .s (.call (some 5) 27 [(.t 4)]), .s (.store 4 (.t 2) (.t 5))]) (.ret))⟩
def c_spec_DrawSeenText : Fun := ⟨9, [], fun ts K => as1 ts fun t0 => arC (pL (.int .u8)) t0 fun code => chk (code.length ≤ 1048576) (∀ (x : Seen), (Sm x) → K (tG (x.tc [])) [])⟩
theorem run_spec_DrawSeenText (code : List (FT.Ty (.int .u8))) (hpre : code.length ≤ 1048576) {K : Tree → List Tree → Prop} (hK : ∀ (x : Seen), (Sm x) → K (tG (x.tc [])) []) : runK [c_spec_l1New, c_spec_l26DrawSeen] (0) [] pf_spec_DrawSeenText [tL false (.int .u8) code] K := by
  conv => whnf
  repeat' (first | (refine sel_i (fun h => ?_) (fun h => ?_) <;> conv => whnf) | (refine chk_c ?_ ?_ <;> conv => whnf) | (refine And.intro ?_ rfl) | (refine And.intro ?_ ?_ <;> conv => whnf) | (intro x y z d hd; (try have g1 := And.left hd); (try have g2 := And.right hd); (try have g3 := And.left (And.right hd)); (try have g4 := And.right (And.right hd)); conv => whnf) | (intro x y d hd; (try have g1 := And.left hd); (try have g2 := And.right hd); (try have g3 := And.left (And.right hd)); (try have g4 := And.right (And.right hd)); conv => whnf) | (intro x d hd; (try have g1 := And.left hd); (try have g2 := And.right hd); (try have g3 := And.left (And.right hd)); (try have g4 := And.right (And.right hd)); conv => whnf) | (intro d hd; (try have g1 := And.left hd); (try have g2 := And.right hd); (try have g3 := And.left (And.right hd)); (try have g4 := And.right (And.right hd)); conv => whnf))
  all_goals first
    | (refine ⟨?_⟩; exact hpre)
    | (refine ⟨?_⟩; exact hd)
    | (exact kSeen (fun w hw => hK w hw) _ _ _ _ hd.1)
    | trace_state
theorem ok_spec_DrawSeenText : FunOk Tryz.prog c_spec_DrawSeenText := funOkR (E := [c_spec_l1New, c_spec_l26DrawSeen]) (envOk_cons ok_spec_l1New (envOk_cons ok_spec_l26DrawSeen (envOk_nil))) mixd Tryz.func9 (pf := pf_spec_DrawSeenText) (by kernel_rfl) fun ts K h => by
  obtain ⟨t0, e0, h⟩ := as1_out h
  subst e0
  obtain ⟨code, e1, hq⟩ := arC_out (rd_l (.int .u8)) h
  clear h
  subst e1
  have h := hq
  clear hq
  obtain ⟨hpre, h⟩ := chk_o h
  exact ⟨Nat.le_of_ble_eq_true (show Nat.ble 1 Tryz.f9.ntmps = true by kernel_rfl), _, run_spec_DrawSeenText code hpre h⟩

/-! words change where they are seen to change -/
theorem seenOf_2 {l : List Inst} {s : State} (h : (seenOf l s).2 = true) : stateOk s = true ∧ s.trap = 0 ∧ (seenOf l s).1 = ⟨s.pc.n, (effE l s).r, (effE l s).addr, (effE l s).trap⟩ := by
  cases hs : stateOk s with
  | false => rw [seenOf_no hs] at h; cases h
  | true =>
    by_cases ht : s.trap = 0
    · rw [seenOf_0 hs ht]; exact ⟨rfl, ht, rfl⟩
    · rw [seenOf_t ht] at h; cases h
theorem putE_words {s : State} {e : Eff} {c : Nat} (h : ¬ e.addr = (c : Int)) : (putE s e).mem.words.getD c (FT.zero .word) = s.mem.words.getD c (FT.zero .word) := by
  unfold putE
  dsimp only
  split
  · rename_i hr
    have hr := inR_t.1 hr
    rw [List.getD_eq_getElem?_getD, List.getD_eq_getElem?_getD, List.getElem?_set_ne (by omega)]
  · rfl
theorem stepS_words {l : List Inst} {s : State} (hs : stateOk s = true) (ht : s.trap = 0) {c : Nat} (h : ¬ (effE l s).addr = (c : Int)) : (stepS l s).mem.words.getD c (FT.zero .word) = s.mem.words.getD c (FT.zero .word) := by
  by_cases h2 : (effE l s).trap = 0
  · rw [stepS_0 hs ht h2]; exact putE_words h
  · rw [stepS_e hs ht h2]
theorem seenGo_words {l : List Inst} {c : Nat} : ∀ (k : Nat) {s : State}, stateOk s = true → (c : Int) ∉ addrS (seenGo l k s) → (inGo l k s).1.mem.words.getD c (FT.zero .word) = s.mem.words.getD c (FT.zero .word)
  | 0, _, _, _ => rfl
  | k + 1, s, hs, h => by
    unfold inGo
    split
    · rename_i ht
      have h2 : (seenOf l s).2 = true := by rw [seenOf_0 hs ht]
      have e : seenGo l (k + 1) s = (seenOf l s).1 :: seenGo l k (stepS l s) := by
        show (if (seenOf l s).2 then _ else _) = _
        rw [if_pos h2]
      have e3 := (seenOf_2 h2).2.2
      have hcons : addrS (seenGo l (k + 1) s) = (if 0 ≤ (effE l s).addr then [(effE l s).addr] else []) ++ addrS (seenGo l k (stepS l s)) := by
        rw [e, e3]
        unfold addrS
        by_cases hq : 0 ≤ (effE l s).addr
        · simp [hq]
        · simp [hq]
      rw [hcons] at h
      have h1 : ¬ (effE l s).addr = (c : Int) := fun q => h (List.mem_append_left _ (by rw [if_pos (by omega), q]; simp))
      have h3 : (c : Int) ∉ addrS (seenGo l k (stepS l s)) := fun q => h (List.mem_append_right _ q)
      show (inGo l k (stepS l s)).1.mem.words.getD c (FT.zero .word) = _
      rw [seenGo_words k (stepS_ok hs) h3, stepS_words hs ht h1]
    · rfl
theorem touched_words {l : List Inst} {s : State} {n : Int} (hs : stateOk s = true) {c : Nat} (h : (touched (seenRun l s n)).any (fun v => v == (c : Int)) = false) : (inOrder l s n).1.mem.words.getD c (FT.zero .word) = s.mem.words.getD c (FT.zero .word) := by
  unfold inOrder
  rw [if_neg (by rw [hs]; decide)]
  refine seenGo_words _ hs fun q => ?_
  have hm : (c : Int) ∈ touched (seenRun l s n) := setI_mem.2 q
  have := List.any_eq_false.1 h _ hm
  simp at this
theorem seenGo_trap {l : List Inst} : ∀ (k : Nat) {s : State} (i : Nat), i + 1 < (seenGo l k s).length → ((seenGo l k s).getD i (FT.zero .seen)).trap = 0
  | 0, _, i, h => by simp [seenGo] at h
  | k + 1, s, i, h => by
    unfold seenGo at h ⊢
    split at h
    · rename_i h2
      rw [if_pos h2]
      obtain ⟨hs, ht, e⟩ := seenOf_2 h2
      cases i with
      | zero =>
        have hk : 0 < (seenGo l k (stepS l s)).length := by simpa using h
        show (seenOf l s).1.trap = 0
        rw [e]
        show (effE l s).trap = 0
        rw [← stepS_tr hs ht]
        cases k with
        | zero => simp [seenGo] at hk
        | succ k =>
          unfold seenGo at hk
          split at hk
          · rename_i h3; exact (seenOf_2 h3).2.1
          · simp at hk
      | succ i => exact seenGo_trap k i (by simpa using h)
    · simp at h
theorem seenRun_bad {l : List Inst} {s : State} {n : Int} (h : stateOk s = false) : seenRun l s n = [] := seenGo_no (by rw [seenOf_no h]) _
theorem asc_at {xs : List Int} (h : Asc xs) {i : Nat} (hi : i + 1 < xs.length) : xs.getD i (FT.zero (.int .i64)) < xs.getD (i + 1) (FT.zero (.int .i64)) := by
  have := List.pairwise_iff_getElem.1 h i (i + 1) (by omega) hi (by omega)
  rw [List.getD_eq_getElem?_getD, List.getD_eq_getElem?_getD, List.getElem?_eq_getElem (by omega), List.getElem?_eq_getElem hi]
  exact this

theorem eqSn (a : Seen) : (a.at_ == a.at_ && (a.r == a.r && (a.addr == a.addr && a.trap == a.trap))) = true := by simp
end Go.Pi
