/- Contracts of functions, each out of its run by PI. No conditions. -/
import Derived.Test.YtbenlebnogedlaaGreatC4
namespace Go.Pi
open Go.Proofs
set_option linter.unusedVariables false
set_option linter.unusedSimpArgs false
set_option maxRecDepth 100000
attribute [local irreducible] iterN
theorem kMem {K : Tree → List Tree → Prop} {o : List Tree} {P : Mem → Prop} (hK : ∀ w : Mem, P w → K (tG (w.tc true [])) o) (a : List Word) (b : List Bool) (h : P ⟨a, b⟩) : K (.v (.g [.ow .word a, .ow .bool b])) o := hK ⟨a, b⟩ h
def cuC (d : Cur) (k : Nat) : List Cell := [.sl false (.int .u8) k, .int .i64 d.i, .int .i64 d.h]
theorem memoryOk_setW {m : Mem} (h : memoryOk m = true) {i : Nat} {w : Word} (hw : wordOk w = true) : memoryOk ⟨m.words.set i w, m.gone⟩ = true := by
  obtain ⟨h1, h2, h3⟩ := memoryOk_iff.1 h
  refine memoryOk_iff.2 ⟨by simp [h1], h2, fun v hv => ?_⟩
  rcases mem_set hv with q | q
  · exact h3 v q
  · rw [q]; exact hw
theorem memoryOk_setG {m : Mem} (h : memoryOk m = true) {i : Nat} {b : Bool} : memoryOk ⟨m.words, m.gone.set i b⟩ = true := by
  obtain ⟨h1, h2, h3⟩ := memoryOk_iff.1 h
  exact memoryOk_iff.2 ⟨h1, by simp [h2], h3⟩
theorem memNew_ok : memoryOk memNew = true := by decide +kernel
theorem stateNew_ok : stateOk stateNew = true := by decide +kernel
def lb_spec_l8DrawRight_0 : PC := .seq (.seq (.reg [.s (.mv 7 (.t 4)), .s (.mv 8 (.t 0)), .s (.call (some 9) 50 [(.t 8), (.k (.v (.c (.int .i64 12))))]), .s (.bin 10 .lss (.t 7) (.t 9))]) (.cond (.t 10) (.skip) (.exit 0))) (.seq (.blk 1 (.rgd [0] [.s (.fa 13 (.t 3) 0), .s (.load 14 false 1 (.t 13)), .s (.mv 15 (.t 0)), .s (.call (some 16) 50 [(.t 15), (.k (.v (.c (.int .i64 24))))]), .s (.mv 17 (.t 0)), .s (.call (some 18) 56 [(.t 17)]), .s (.ia 19 .word (.t 14) (.t 16)), .s (.store 6 (.t 19) (.t 18))] (.tk 0 (.tk 1 (.tk 2 (.tk 4 (.one 3 false (.one 5 false (.tk 6 (.one 7 true (.done none))))))))))) (.reg [.s (.mv 11 (.t 4)), .s (.bin 12 .add (.t 11) (.k (.v (.c (.int .i64 1))))), .s (.mv 4 (.t 12))]))
def lb_spec_l8DrawRight_1 : PC := .seq (.seq (.reg [.s (.mv 20 (.t 5)), .s (.mv 21 (.t 0)), .s (.call (some 22) 50 [(.t 21), (.k (.v (.c (.int .i64 4))))]), .s (.bin 23 .lss (.t 20) (.t 22))]) (.cond (.t 23) (.skip) (.exit 2))) (.seq (.blk 3 (.rgd [0] [.s (.fa 26 (.t 3) 1), .s (.load 27 false 1 (.t 26)), .s (.mv 28 (.t 0)), .s (.call (some 29) 50 [(.t 28), (.k (.v (.c (.int .i64 24))))]), .s (.ia 30 .bool (.t 27) (.t 29)), .s (.store 1 (.t 30) (.k (.v (.c .tt))))] (.tk 0 (.tk 1 (.tk 2 (.one 3 false (.tk 4 (.one 5 true (.done none))))))))) (.reg [.s (.mv 24 (.t 5)), .s (.bin 25 .add (.t 24) (.k (.v (.c (.int .i64 1))))), .s (.mv 5 (.t 25))]))
def pf_spec_l8DrawRight : PF := ⟨[.c 2 true 2], .seq (.reg [.s (.alloc 2 [.nils .word, .nils .bool])]) (.seq (.reg [.s (.call (some 6) 65 []), .s (.alloc 3 [.nils .word, .nils .bool]), .s (.store 2 (.t 3) (.t 6))]) (.seq (.seq (.reg [.s (.mv 4 (.k (.v (.c (.int .i64 0)))))]) (.blk 0 (.loop [0, 2, 3, 4] lb_spec_l8DrawRight_0))) (.seq (.seq (.reg [.s (.mv 5 (.k (.v (.c (.int .i64 0)))))]) (.blk 2 (.loop [0, 2, 3, 5] lb_spec_l8DrawRight_1))) (.seq (.reg [.s (.load 31 true 2 (.t 3)), .s (.store 2 (.t 2) (.t 31))]) (.ret)))))⟩
def c_spec_l8DrawRight : Fun := ⟨33, [true], fun ts K => as1 ts fun t0 => arQ pCurT t0 fun c => chk (CurOk c) (∀ (m : Mem) (d : Cur), (memoryOk m = true ∧ CurOk d) → K (tG (m.tc true [])) ([curOut d]))⟩
theorem run_spec_l8DrawRight (c : Cur) (hpre : CurOk c) {K : Tree → List Tree → Prop} (hK : ∀ (m : Mem) (d : Cur), (memoryOk m = true ∧ CurOk d) → K (tG (m.tc true [])) ([curOut d])) : runK [c_spec_l1Below, c_spec_l3DrawRight, c_spec_MemoryNew] (20) [true] pf_spec_l8DrawRight [.v (.ptr true 0 (c.tc []))] K := by
  conv => whnf
  refine loop (α := Nat × Cur × Mem) (fun q => ⟨[(0, .v (.c (.ptr 0 0))), (2, .v (.c (.ptr 2 0))), (3, .v (.c (.ptr 3 0))), (4, .v (.c (.int .i64 (q.1 : Int))))],
        [(5, some (.flat true .bool none q.2.2.gone)), (4, some (.flat true .word none q.2.2.words)), (3, some (.box true [.sl false .word 4, .sl false .bool 5])), (2, some (.box true [.nils .word, .nils .bool])), (1, some (.flat false (.int .u8) none q.2.1.b)), (0, some (.box true (cuC q.2.1 1)))], nums.tail.tail.tail.tail.tail.tail, [.v (.c (.ptr 0 0))], false, []⟩)
    (fun q => q.1 ≤ 12 ∧ CurOk q.2.1 ∧ memoryOk q.2.2 = true) (fun q => 12 - q.1) (fun q R hI hR => ?_) (0, c, memNew) _ ⟨by simp, hpre, memNew_ok⟩ (by simp)
  obtain ⟨i, e, m⟩ := q
  obtain ⟨hi, he, hm⟩ := hI
  dsimp only at hi he hm
  dsimp only
  have hl := memoryOk_iff.1 hm
  conv => whnf
  repeat' (first | (refine sel_i (fun h => ?_) (fun h => ?_) <;> conv => whnf) | (refine chk_c ?_ ?_ <;> conv => whnf) | (refine And.intro ?_ rfl) | (refine And.intro ?_ ?_ <;> conv => whnf) | (intro x y z d hd; (try have g1 := And.left hd); (try have g2 := And.right hd); (try have g3 := And.left (And.right hd)); (try have g4 := And.right (And.right hd)); conv => whnf) | (intro x y d hd; (try have g1 := And.left hd); (try have g2 := And.right hd); (try have g3 := And.left (And.right hd)); (try have g4 := And.right (And.right hd)); conv => whnf) | (intro x d hd; (try have g1 := And.left hd); (try have g2 := And.right hd); (try have g3 := And.left (And.right hd)); (try have g4 := And.right (And.right hd)); conv => whnf) | (intro d hd; (try have g1 := And.left hd); (try have g2 := And.right hd); (try have g3 := And.left (And.right hd)); (try have g4 := And.right (And.right hd)); conv => whnf))
  all_goals first
    | (refine ⟨?_⟩; exact he)
    | (refine ⟨?_⟩; exact hd.2)
    | (refine ⟨?_⟩; simp at *; omega)
    | (rw [wrap_id (n := (i : Int) + 1) (by omega) (by omega)]; exact hR (i + 1, _, ⟨_, _⟩) ⟨by simp at h ⊢; omega, by exact hd.2, memoryOk_setW hm hd.1⟩ (by simp at h ⊢; omega))
    | skip
  clear hR he hl hi
  refine loop (α := Nat × Cur × Mem) (fun q => ⟨[(0, .v (.c (.ptr 0 0))), (2, .v (.c (.ptr 2 0))), (3, .v (.c (.ptr 3 0))), (5, .v (.c (.int .i64 (q.1 : Int))))],
        [(5, some (.flat true .bool none q.2.2.gone)), (4, some (.flat true .word none q.2.2.words)), (3, some (.box true [.sl false .word 4, .sl false .bool 5])), (2, some (.box true [.nils .word, .nils .bool])), (1, some (.flat false (.int .u8) none q.2.1.b)), (0, some (.box true (cuC q.2.1 1)))], nums.tail.tail.tail.tail.tail.tail, [.v (.c (.ptr 0 0))], false, []⟩)
    (fun q => q.1 ≤ 12 ∧ CurOk q.2.1 ∧ memoryOk q.2.2 = true) (fun q => 12 - q.1) (fun q R hI hR => ?_) (0, d, m) _ ⟨by simp, hd.2, hm⟩ (by simp)
  obtain ⟨i, e, m⟩ := q
  obtain ⟨hi, he, hm⟩ := hI
  dsimp only at hi he hm
  dsimp only
  have hl := memoryOk_iff.1 hm
  conv => whnf
  repeat' (first | (refine sel_i (fun h => ?_) (fun h => ?_) <;> conv => whnf) | (refine chk_c ?_ ?_ <;> conv => whnf) | (refine And.intro ?_ rfl) | (refine And.intro ?_ ?_ <;> conv => whnf) | (intro x y z d hd; (try have g1 := And.left hd); (try have g2 := And.right hd); (try have g3 := And.left (And.right hd)); (try have g4 := And.right (And.right hd)); conv => whnf) | (intro x y d hd; (try have g1 := And.left hd); (try have g2 := And.right hd); (try have g3 := And.left (And.right hd)); (try have g4 := And.right (And.right hd)); conv => whnf) | (intro x d hd; (try have g1 := And.left hd); (try have g2 := And.right hd); (try have g3 := And.left (And.right hd)); (try have g4 := And.right (And.right hd)); conv => whnf) | (intro d hd; (try have g1 := And.left hd); (try have g2 := And.right hd); (try have g3 := And.left (And.right hd)); (try have g4 := And.right (And.right hd)); conv => whnf))
  all_goals first
    | (refine ⟨?_⟩; exact he)
    | (refine ⟨?_⟩; exact hd.2)
    | (refine ⟨?_⟩; simp at *; omega)
    | (rw [wrap_id (n := (i : Int) + 1) (by omega) (by omega)]; have h := of_decide_eq_true h; exact hR (i + 1, d, ⟨m.words, m.gone.set x.toNat true⟩) ⟨by dsimp only; omega, hd.2, memoryOk_setG hm⟩ (by dsimp only; omega))
    | (exact kMem (fun m hm => hK m _ hm) _ _ ⟨hm, hd.2⟩)
    | trace_state
theorem ok_spec_l8DrawRight : FunOk Tryz.prog c_spec_l8DrawRight := funOkR (E := [c_spec_l1Below, c_spec_l3DrawRight, c_spec_MemoryNew]) (envOk_cons ok_spec_l1Below (envOk_cons ok_spec_l3DrawRight (envOk_cons ok_spec_MemoryNew (envOk_nil)))) mixd Tryz.func33 (pf := pf_spec_l8DrawRight) (by kernel_rfl) fun ts K h => by
  obtain ⟨t0, e0, h⟩ := as1_out h
  subst e0
  obtain ⟨c, e1, hq⟩ := arQ_out rd_cur h
  clear h
  subst e1
  have h := hq
  clear hq
  obtain ⟨hpre, h⟩ := chk_o h
  exact ⟨Nat.le_of_ble_eq_true (show Nat.ble 1 Tryz.f33.ntmps = true by kernel_rfl), _, run_spec_l8DrawRight c hpre h⟩

theorem stateOk_setR {s : State} (h : stateOk s = true) {i : Nat} {w : Word} (hw : wordOk w = true) {m : Mem} (hm : memoryOk m = true) : stateOk ⟨s.regs.set i w, s.pc, m, s.trap⟩ = true := by
  obtain ⟨r1, r2, r3, r4, r5, r6⟩ := stateOk_iff.1 h
  refine stateOk_iff.2 ⟨by simp [r1], fun v hv => ?_, r3, hm, r5, r6⟩
  rcases mem_set hv with q | q
  · exact r2 v q
  · rw [q]; exact hw
theorem snN : stateNew.regs.length = 8 := rfl

def lb_spec_l9DrawState_0 : PC := .seq (.seq (.reg [.s (.mv 27 (.t 7)), .s (.mv 28 (.t 6)), .s (.bin 29 .lss (.t 27) (.t 28))]) (.cond (.t 29) (.skip) (.exit 0))) (.seq (.blk 1 (.seq (.reg [.s (.mv 32 (.t 4)), .s (.load 33 true 10 (.t 5)), .s (.call (some 34) 98 [(.t 32), (.t 33)]), .s (.alloc 8 [.nils .word, .int .i64 0, .ff, .int .i64 0, .int .i64 0, .int .i64 0, .int .i64 0, .nils .word, .nils .bool, .int .i64 0]), .s (.store 10 (.t 8) (.t 34))]) (.seq (.reg [.s (.fa 35 (.t 8) 9), .s (.load 36 false 1 (.t 35)), .s (.bin 37 .eql (.t 36) (.k (.v (.c (.int .i64 0)))))]) (.cond (.t 37) (.reg [.s (.load 38 true 10 (.t 8)), .s (.store 10 (.t 5) (.t 38))]) (.skip))))) (.reg [.s (.mv 30 (.t 7)), .s (.bin 31 .add (.t 30) (.k (.v (.c (.int .i64 1))))), .s (.mv 7 (.t 31))]))
def pf_spec_l9DrawState : PF := ⟨[.t 2, .c 3 true 10], .seq (.reg [.s (.mv 2 (.k (.v (.c (.nils .inst))))), .s (.alloc 3 [.nils .word, .int .i64 0, .ff, .int .i64 0, .int .i64 0, .int .i64 0, .int .i64 0, .nils .word, .nils .bool, .int .i64 0])]) (.seq (.reg [.s (.mv 9 (.t 0)), .s (.call (some 10) 90 [(.t 9)]), .s (.mv 4 (.t 10))]) (.seq (.reg [.s (.call (some 11) 97 []), .s (.alloc 5 [.nils .word, .int .i64 0, .ff, .int .i64 0, .int .i64 0, .int .i64 0, .int .i64 0, .nils .word, .nils .bool, .int .i64 0]), .s (.store 10 (.t 5) (.t 11))]) (.seq (.seq (.reg [.s (.mv 12 (.t 0)), .s (.call (some 13) 55 [(.t 12), (.k (.v (.c (.int .i64 2))))])]) (.cond (.t 13) (.seq (.reg [.s (.mv 14 (.t 0)), .s (.call (some 15) 33 [(.t 14)]), .s (.fa 16 (.t 5) 7), .s (.store 2 (.t 16) (.t 15))]) (.rgd [0] [.s (.fa 17 (.t 5) 0), .s (.load 18 false 1 (.t 17)), .s (.mv 19 (.t 0)), .s (.call (some 20) 50 [(.t 19), (.k (.v (.c (.int .i64 4))))]), .s (.bin 21 .add (.k (.v (.c (.int .i64 1)))) (.t 20)), .s (.mv 22 (.t 0)), .s (.call (some 23) 56 [(.t 22)]), .s (.ia 24 .word (.t 18) (.t 21)), .s (.store 6 (.t 24) (.t 23))] (.tk 0 (.tk 1 (.tk 2 (.tk 5 (.one 3 false (.tk 4 (.one 6 false (.tk 7 (.one 8 true (.done none)))))))))))) (.skip))) (.seq (.reg [.s (.mv 25 (.t 0)), .s (.call (some 26) 50 [(.t 25), (.k (.v (.c (.int .i64 10))))]), .s (.mv 6 (.t 26))]) (.seq (.seq (.reg [.s (.mv 7 (.k (.v (.c (.int .i64 0)))))]) (.blk 0 (.loop [3, 4, 5, 6, 7] lb_spec_l9DrawState_0))) (.seq (.rgd [] [.s (.mv 39 (.t 4)), .s (.load 40 true 10 (.t 5)), .s (.mv 2 (.t 39)), .s (.store 10 (.t 3) (.t 40))] (.tk 0 (.tk 1 (.tk 2 (.one 3 true (.done none)))))) (.ret)))))))⟩
def c_spec_l9DrawState : Fun := ⟨54, [true], fun ts K => as1 ts fun t0 => arQ pCurT t0 fun c => chk (CurOk c) (∀ (l : List Inst) (s : State) (d : Cur), ((l.length ≤ 20 ∧ 1 ≤ l.length) ∧ stateOk s = true ∧ CurOk d) → K (.tup [.c (tl true .inst l), .g (s.tc true [])]) ([curOut d]))⟩
theorem run_spec_l9DrawState (c : Cur) (hpre : CurOk c) {K : Tree → List Tree → Prop} (hK : ∀ (l : List Inst) (s : State) (d : Cur), ((l.length ≤ 20 ∧ 1 ≤ l.length) ∧ stateOk s = true ∧ CurOk d) → K (.tup [.c (tl true .inst l), .g (s.tc true [])]) ([curOut d])) : runK [c_spec_l8DrawRight, c_spec_l1Below, c_spec_l1Once, c_spec_l3DrawRight, c_spec_l6DrawCode, c_spec_StateNew, c_spec_Step] (12) [true] pf_spec_l9DrawState [.v (.ptr true 0 (c.tc []))] K := by
  conv => whnf
  repeat' (first | (refine sel_i (fun h => ?_) (fun h => ?_) <;> conv => whnf) | (refine chk_c ?_ ?_ <;> conv => whnf) | (refine And.intro ?_ rfl) | (refine And.intro ?_ ?_ <;> conv => whnf) | (intro x y z d hd; (try have g1 := And.left hd); (try have g2 := And.right hd); (try have g3 := And.left (And.right hd)); (try have g4 := And.right (And.right hd)); conv => whnf) | (intro x y d hd; (try have g1 := And.left hd); (try have g2 := And.right hd); (try have g3 := And.left (And.right hd)); (try have g4 := And.right (And.right hd)); conv => whnf) | (intro x d hd; (try have g1 := And.left hd); (try have g2 := And.right hd); (try have g3 := And.left (And.right hd)); (try have g4 := And.right (And.right hd)); conv => whnf) | (intro d hd; (try have g1 := And.left hd); (try have g2 := And.right hd); (try have g3 := And.left (And.right hd)); (try have g4 := And.right (And.right hd)); conv => whnf))
  all_goals first
    | (refine ⟨?_⟩; exact hd)
    | (refine ⟨?_⟩; exact hd.2)
    | (refine ⟨?_⟩; exact hpre)
    | (refine ⟨?_⟩; decide)
    | (refine ⟨?_⟩; rfl)
    | (refine ⟨?_⟩; exact hd.2.2)
    | (refine ⟨?_⟩; rw [snN, wrap_id (by omega) (by omega)]; omega)
    | skip
  all_goals (
    have hx := hd.1
    refine loop (α := Nat × State) (fun q => ⟨[(3, .v (.c (.ptr 2 0))), (4, .v (.c (.sl false .inst 3))), (5, .v (.c (.ptr 4 0))), (6, .v (.c (.int .i64 x))), (7, .v (.c (.int .i64 (q.1 : Int))))],
        [(7, some (.flat true .bool none q.2.mem.gone)), (6, some (.flat true .word none q.2.mem.words)), (5, some (.flat true .word none q.2.regs)), (4, some (.box true (stC q.2 5 6 7 []))), (3, some (.flat true .inst none _)), (2, some (.box true zSC)), (1, some (.flat false (.int .u8) none d.b)), (0, some (.box true (cuC d 1)))], nums.tail.tail.tail.tail.tail.tail.tail.tail, [.v (.c (.ptr 0 0))], false, []⟩)
      (fun q => (q.1 : Int) ≤ x ∧ stateOk q.2 = true) (fun q => 10 - q.1) (fun q R hI hR => ?_) (0, ⟨_, _, ⟨_, _⟩, _⟩) _ ⟨by simp; omega, by first | exact stateNew_ok | exact stateOk_setR stateNew_ok (by assumption) (by assumption)⟩ (by simp)
    obtain ⟨i, v⟩ := q
    obtain ⟨hi, hv⟩ := hI
    dsimp only at hi hv
    dsimp only
    have hlen := (stateOk_len hv).l
    conv => whnf
    repeat' (first | (refine sel_i (fun h => ?_) (fun h => ?_) <;> conv => whnf) | (refine chk_c ?_ ?_ <;> conv => whnf) | (refine And.intro ?_ rfl) | (refine And.intro ?_ ?_ <;> conv => whnf) | (intro x y z d hd; (try have g1 := And.left hd); (try have g2 := And.right hd); (try have g3 := And.left (And.right hd)); (try have g4 := And.right (And.right hd)); conv => whnf) | (intro x y d hd; (try have g1 := And.left hd); (try have g2 := And.right hd); (try have g3 := And.left (And.right hd)); (try have g4 := And.right (And.right hd)); conv => whnf) | (intro x d hd; (try have g1 := And.left hd); (try have g2 := And.right hd); (try have g3 := And.left (And.right hd)); (try have g4 := And.right (And.right hd)); conv => whnf) | (intro d hd; (try have g1 := And.left hd); (try have g2 := And.right hd); (try have g3 := And.left (And.right hd)); (try have g4 := And.right (And.right hd)); conv => whnf))
    all_goals (try simp only [etaKey, etaWord, etaMemory, etaState, decide_eq_true_eq, decide_eq_false_iff_not, beq_iff_eq] at *)
    all_goals first
      | (refine ⟨?_⟩; exact ⟨by omega, hlen⟩)
      | (rw [wrap_id (n := (i : Int) + 1) (by omega) (by omega)]; exact hR (i + 1, stepS _ v) ⟨by dsimp only; omega, stepS_ok hv⟩ (by dsimp only; omega))
      | (rw [wrap_id (n := (i : Int) + 1) (by omega) (by omega)]; exact hR (i + 1, v) ⟨by dsimp only; omega, hv⟩ (by dsimp only; omega))
      | (exact hK _ v d ⟨⟨by omega, by omega⟩, hv, hd.2⟩)
      | trace_state)
theorem ok_spec_l9DrawState : FunOk Tryz.prog c_spec_l9DrawState := funOkR (E := [c_spec_l8DrawRight, c_spec_l1Below, c_spec_l1Once, c_spec_l3DrawRight, c_spec_l6DrawCode, c_spec_StateNew, c_spec_Step]) (envOk_cons ok_spec_l8DrawRight (envOk_cons ok_spec_l1Below (envOk_cons ok_spec_l1Once (envOk_cons ok_spec_l3DrawRight (envOk_cons ok_spec_l6DrawCode (envOk_cons ok_spec_StateNew (envOk_cons ok_spec_Step (envOk_nil)))))))) mixd Tryz.func54 (pf := pf_spec_l9DrawState) (by kernel_rfl) fun ts K h => by
  obtain ⟨t0, e0, h⟩ := as1_out h
  subst e0
  obtain ⟨c, e1, hq⟩ := arQ_out rd_cur h
  clear h
  subst e1
  have h := hq
  clear hq
  obtain ⟨hpre, h⟩ := chk_o h
  exact ⟨Nat.le_of_ble_eq_true (show Nat.ble 1 Tryz.f54.ntmps = true by kernel_rfl), _, run_spec_l9DrawState c hpre h⟩

theorem U8s.app {a b : List Int} (ha : U8s a) (hb : U8s b) : U8s (a ++ b) := fun x hx => by
  rcases List.mem_append.1 hx with q | q
  · exact ha x q
  · exact hb x q
theorem U8s.put {a : List Int} (ha : U8s a) {i : Nat} {v : Int} (hv : 0 ≤ v ∧ v ≤ 255) : U8s (a.set i v) := fun x hx => by
  rcases mem_set hx with q | q
  · exact ha x q
  · rw [q]; exact hv
theorem kState {K : Tree → List Tree → Prop} {o : List Tree} {P : State → Prop} {l : List Inst} (hK : ∀ s : State, P s → K (.tup [.c (tl true .inst l), .g (s.tc true [])]) o) (a : List Word) (n : Int) (is : Bool) (e f g h : Int) (b : List Word) (c : List Bool) (t : Int) (hp : P ⟨a, ⟨n, is, ⟨e, f, g, h⟩⟩, ⟨b, c⟩, t⟩) :
    K (.tup [.c (.ow .inst l), .g [.ow .word a, .int .i64 n, .bool is, .int .i64 e, .int .i64 f, .int .i64 g, .int .i64 h, .ow .word b, .ow .bool c, .int .i64 t]]) o := hK ⟨a, ⟨n, is, ⟨e, f, g, h⟩⟩, ⟨b, c⟩, t⟩ hp

def pf_spec_DrawGoing : PF := ⟨[.t 2, .c 3 true 10], .seq (.reg [.s (.mv 2 (.k (.v (.c (.nils .inst))))), .s (.alloc 3 [.nils .word, .int .i64 0, .ff, .int .i64 0, .int .i64 0, .int .i64 0, .int .i64 0, .nils .word, .nils .bool, .int .i64 0])]) (.seq (.reg [.s (.mv 7 (.t 0)), .s (.call (some 8) 34 [(.t 7)]), .s (.mv 4 (.t 8))]) (.seq (.reg [.s (.mv 10 (.t 4)), .s (.call (some 11) 54 [(.t 10)]), .s (.mv 9 (.t 11)), .s (.ext 12 (.t 9) 0), .s (.ext 13 (.t 9) 1), .s (.alloc 6 [.nils .word, .int .i64 0, .ff, .int .i64 0, .int .i64 0, .int .i64 0, .int .i64 0, .nils .word, .nils .bool, .int .i64 0]), .s (.mv 5 (.t 12)), .s (.store 10 (.t 6) (.t 13))]) (.seq (.seq (.reg [.s (.mv 14 (.t 4)), .s (.call (some 15) 55 [(.t 14), (.k (.v (.c (.int .i64 2))))])]) (.cond (.t 15) (.rgd [4] [.s (.fa 16 (.t 6) 0), .s (.load 17 false 1 (.t 16)), .s (.mv 18 (.t 4)), .s (.call (some 19) 56 [(.t 18)]), .s (.ia 20 .word (.t 17) (.k (.v (.c (.int .i64 0))))), .s (.store 6 (.t 20) (.t 19))] (.tk 0 (.tk 1 (.tk 2 (.one 3 false (.tk 4 (.one 5 true (.done none)))))))) (.skip))) (.seq (.rgd [] [.s (.mv 21 (.t 5)), .s (.load 22 true 10 (.t 6)), .s (.mv 2 (.t 21)), .s (.store 10 (.t 3) (.t 22))] (.tk 0 (.tk 1 (.tk 2 (.one 3 true (.done none)))))) (.ret)))))⟩
def c_spec_DrawGoing : Fun := ⟨20, [], fun ts K => as1 ts fun t0 => arC (pL (.int .u8)) t0 fun code => chk (code.length ≤ 1048576) (∀ (l : List Inst) (s : State), ((l.length ≤ 20 ∧ 1 ≤ l.length) ∧ stateOk s = true) → K (.tup [.c (tl true .inst l), .g (s.tc true [])]) [])⟩
theorem run_spec_DrawGoing (code : List (FT.Ty (.int .u8))) (hpre : code.length ≤ 1048576) {K : Tree → List Tree → Prop} (hK : ∀ (l : List Inst) (s : State), ((l.length ≤ 20 ∧ 1 ≤ l.length) ∧ stateOk s = true) → K (.tup [.c (tl true .inst l), .g (s.tc true [])]) []) : runK [c_spec_l1New, c_spec_l9DrawState, c_spec_l1Once, c_spec_l3DrawRight] (0) [] pf_spec_DrawGoing [tL false (.int .u8) code] K := by
  conv => whnf
  repeat' (first | (refine sel_i (fun h => ?_) (fun h => ?_) <;> conv => whnf) | (refine chk_c ?_ ?_ <;> conv => whnf) | (refine And.intro ?_ rfl) | (refine And.intro ?_ ?_ <;> conv => whnf) | (intro x y z d hd; (try have g1 := And.left hd); (try have g2 := And.right hd); (try have g3 := And.left (And.right hd)); (try have g4 := And.right (And.right hd)); conv => whnf) | (intro x y d hd; (try have g1 := And.left hd); (try have g2 := And.right hd); (try have g3 := And.left (And.right hd)); (try have g4 := And.right (And.right hd)); conv => whnf) | (intro x d hd; (try have g1 := And.left hd); (try have g2 := And.right hd); (try have g3 := And.left (And.right hd)); (try have g4 := And.right (And.right hd)); conv => whnf) | (intro d hd; (try have g1 := And.left hd); (try have g2 := And.right hd); (try have g3 := And.left (And.right hd)); (try have g4 := And.right (And.right hd)); conv => whnf))
  all_goals first
    | (refine ⟨?_⟩; exact hd)
    | (refine ⟨?_⟩; exact hd.2)
    | (refine ⟨?_⟩; exact hd.2.2)
    | (refine ⟨?_⟩; exact hpre)
    | (refine ⟨?_⟩; exact ⟨hd, by simp⟩)
    | (refine ⟨?_⟩; exact ⟨hd.2, by simp⟩)
    | (refine ⟨?_⟩; exact ⟨hd.2.2, by simp⟩)
    | (refine ⟨?_⟩; decide)
    | (refine ⟨?_⟩; rfl)
    | (refine ⟨?_⟩; obtain ⟨hl1, hl2, hl3⟩ := stateOk_len (s := y) (by assumption); omega)
    | (refine ⟨?_⟩; obtain ⟨hl1, hl2, hl3⟩ := stateOk_len (s := y) (by assumption); rw [hl1]; decide)
    | (have hs : stateOk y = true := (by assumption); have hw : wordOk x = true := (by assumption); refine kState (fun s hs => hK _ s hs) _ _ _ _ _ _ _ _ _ _ ⟨?_, ?_⟩ <;> first | assumption | exact stateOk_setR hs hw (stateOk_iff.1 hs).2.2.2.1)
    | (refine kState (fun s hs => hK _ s hs) _ _ _ _ _ _ _ _ _ _ ⟨?_, ?_⟩ <;> assumption)
    | trace_state
theorem ok_spec_DrawGoing : FunOk Tryz.prog c_spec_DrawGoing := funOkR (E := [c_spec_l1New, c_spec_l9DrawState, c_spec_l1Once, c_spec_l3DrawRight]) (envOk_cons ok_spec_l1New (envOk_cons ok_spec_l9DrawState (envOk_cons ok_spec_l1Once (envOk_cons ok_spec_l3DrawRight (envOk_nil))))) mixd Tryz.func20 (pf := pf_spec_DrawGoing) (by kernel_rfl) fun ts K h => by
  obtain ⟨t0, e0, h⟩ := as1_out h
  subst e0
  obtain ⟨code, e1, hq⟩ := arC_out (rd_l (.int .u8)) h
  clear h
  subst e1
  have h := hq
  clear hq
  obtain ⟨hpre, h⟩ := chk_o h
  exact ⟨Nat.le_of_ble_eq_true (show Nat.ble 1 Tryz.f20.ntmps = true by kernel_rfl), _, run_spec_DrawGoing code hpre h⟩

theorem eq_end {α : Type} [DecidableEq α] {xs ys : List α} {i : Nat} (hl : xs.length = ys.length) (h : xs.length ≤ i) (he : xs.take i = ys.take i) : decide (xs = ys) = true := by
  rw [List.take_of_length_le h, List.take_of_length_le (by omega)] at he
  exact decide_eq_true he
theorem eq_no {α : Type} [DecidableEq α] {xs ys : List α} {i : Nat} {z : α} (hne : ¬ xs.getD i z = ys.getD i z) : decide (xs = ys) = false :=
  decide_eq_false fun e => hne (by rw [e])
theorem eq_yes {α : Type} {xs ys : List α} {i : Nat} {z : α} (hl : xs.length = ys.length) (h : i < xs.length) (hq : xs.getD i z = ys.getD i z) (he : xs.take i = ys.take i) : xs.take (i + 1) = ys.take (i + 1) := by
  have h2 : i < ys.length := by omega
  rw [List.take_add_one, List.take_add_one, he, List.getElem?_eq_getElem h, List.getElem?_eq_getElem h2]
  rw [List.getD_eq_getElem?_getD, List.getD_eq_getElem?_getD, List.getElem?_eq_getElem h, List.getElem?_eq_getElem h2] at hq
  simp only [Option.getD_some] at hq
  rw [hq]
theorem len_ne {α : Type} [DecidableEq α] {xs ys : List α} (h : ((xs.length : Int) != (ys.length : Int)) = true) : decide (xs = ys) = false :=
  decide_eq_false fun e => by rw [e] at h; simp at h
theorem len_eq {α : Type} {xs ys : List α} (h : ((xs.length : Int) != (ys.length : Int)) = false) : xs.length = ys.length := by
  simp at h; omega
theorem eqWd {a b : Word} : (a.n == b.n && (a.is == b.is && (a.key.base == b.key.base && (a.key.top == b.key.top && (a.key.perms == b.key.perms && a.key.sealed == b.key.sealed))))) = decide (a = b) := by
  obtain ⟨a1, a2, a3, a4, a5, a6⟩ := a
  obtain ⟨b1, b2, b3, b4, b5, b6⟩ := b
  rw [Bool.eq_iff_iff]
  simp









theorem eqId {a b : Inst} : (a.op == b.op && (a.r == b.r && (a.a == b.a && (a.b == b.b && a.n == b.n)))) = decide (a = b) := by
  obtain ⟨a1, a2, a3, a4, a5⟩ := a
  obtain ⟨b1, b2, b3, b4, b5⟩ := b
  rw [Bool.eq_iff_iff]
  simp

def lb_laws_sameInts_0 : PC := .seq (.seq (.reg [.s (.mv 11 (.t 5)), .s (.mv 12 (.t 0)), .s (.len 13 false (.t 12)), .s (.bin 14 .lss (.t 11) (.t 13))]) (.cond (.t 14) (.skip) (.exit 0))) (.seq (.blk 1 (.seq (.rgd [] [.s (.mv 17 (.t 0)), .s (.mv 18 (.t 5)), .s (.ia 19 (.int .i64) (.t 17) (.t 18)), .s (.load 20 false 1 (.t 19)), .s (.mv 21 (.t 1)), .s (.mv 22 (.t 5)), .s (.ia 23 (.int .i64) (.t 21) (.t 22)), .s (.load 24 false 1 (.t 23)), .s (.bin 25 .neq (.t 20) (.t 24))] (.tk 0 (.tk 1 (.tk 2 (.tk 3 (.tk 4 (.tk 5 (.tk 6 (.tk 7 (.tk 8 (.done none))))))))))) (.cond (.t 25) (.seq (.reg [.s (.mv 4 (.k (.v (.c .ff))))]) (.ret)) (.skip)))) (.reg [.s (.mv 15 (.t 5)), .s (.bin 16 .add (.t 15) (.k (.v (.c (.int .i64 1))))), .s (.mv 5 (.t 16))]))
def pf_laws_sameInts : PF := ⟨[.t 4], .seq (.reg [.s (.mv 4 (.k (.v (.c .ff))))]) (.seq (.seq (.reg [.s (.mv 6 (.t 0)), .s (.len 7 false (.t 6)), .s (.mv 8 (.t 1)), .s (.len 9 false (.t 8)), .s (.bin 10 .neq (.t 7) (.t 9))]) (.cond (.t 10) (.seq (.reg [.s (.mv 4 (.k (.v (.c .ff))))]) (.ret)) (.skip))) (.seq (.seq (.reg [.s (.mv 5 (.k (.v (.c (.int .i64 0)))))]) (.blk 0 (.loop [0, 1, 5] lb_laws_sameInts_0))) (.seq (.reg [.s (.mv 4 (.k (.v (.c .tt))))]) (.ret))))⟩
def c_laws_sameInts : Fun := ⟨19, [], fun ts K => as2 ts fun t0 t1 => arC (pL (.int .i64)) t0 fun a => arC (pL (.int .i64)) t1 fun b => chk (a.length ≤ 2147483647 ∧ b.length ≤ 2147483647) (K (tB (decide (a = b))) [])⟩
theorem run_laws_sameInts (a : List (FT.Ty (.int .i64))) (b : List (FT.Ty (.int .i64))) (hpre : a.length ≤ 2147483647 ∧ b.length ≤ 2147483647) : runK [] (a.length + 1) [] pf_laws_sameInts [tL false (.int .i64) a, tL false (.int .i64) b] fun r o => r = tB (decide (a = b)) ∧ o = [] := by
  obtain ⟨l1, l2⟩ := hpre
  conv => whnf
  refine sel_i (fun h => ?_) (fun h => ?_) <;> conv => whnf
  · rw [len_ne h]; exact ⟨rfl, rfl⟩
  have hl := len_eq h
  clear h
  refine loop (α := Nat) (fun i => ⟨[(0, .v (.c (.sl false (.int .i64) 0))), (1, .v (.c (.sl false (.int .i64) 1))), (5, .v (.c (.int .i64 (i : Int))))], [(1, some (.flat false (.int .i64) none b)), (0, some (.flat false (.int .i64) none a))], nums.tail.tail, [], false, []⟩)
      (fun i => i ≤ a.length ∧ a.take i = b.take i) (fun i => a.length - i) (fun i R hI hR => ?_) 0 _ ⟨by simp, by simp⟩ (by omega)
  obtain ⟨hi, hx⟩ := hI
  conv => whnf
  repeat' (first | (refine sel_i (fun h => ?_) (fun h => ?_) <;> conv => whnf) | (refine chk_c ?_ ?_ <;> conv => whnf) | (refine And.intro ?_ rfl) | (refine And.intro ?_ ?_ <;> conv => whnf))
  all_goals (try simp only [eqId, etaInst, Int.toNat_natCast, Bool.not_eq_true', Bool.not_eq_false', decide_eq_true_eq, decide_eq_false_iff_not, bne_iff_ne, bne_eq_false_iff_eq] at *)
  all_goals first
    | (refine ⟨?_⟩; omega)
    | (rw [eq_no (z := (FT.zero (.int .i64))) (i := i) (by first | assumption | simpa using h)]; done)
    | (rw [eq_end hl (by omega) hx]; done)
    | (rw [wrap_id (n := (i : Int) + 1) (by omega) (by omega)]; exact hR (i + 1) ⟨by omega, eq_yes (z := (FT.zero (.int .i64))) hl (by omega) (by first | assumption | simpa using h) hx⟩ (by omega))
    | trace_state
theorem ok_laws_sameInts : FunOk Tryz.prog c_laws_sameInts := funOk (E := []) (envOk_nil) mixd Tryz.func19 (pf := pf_laws_sameInts) (by kernel_rfl) fun ts K h => by
  obtain ⟨t0, t1, e0, h⟩ := as2_out h
  subst e0
  obtain ⟨a, e1, hq⟩ := arC_out (rd_l (.int .i64)) h
  clear h
  subst e1
  have h := hq
  clear hq
  obtain ⟨b, e1, hq⟩ := arC_out (rd_l (.int .i64)) h
  clear h
  subst e1
  have h := hq
  clear hq
  obtain ⟨hpre, h⟩ := chk_o h
  exact ⟨_, _, h, Nat.le_of_ble_eq_true (show Nat.ble 2 Tryz.f19.ntmps = true by kernel_rfl), _, run_laws_sameInts a b hpre⟩





/-! what the small programs do -/
theorem and65_id {n : Int} (h : 0 ≤ n ∧ n ≤ 65535) : andI n 65535 = n := by
  obtain ⟨m, rfl⟩ := Int.eq_ofNat_of_zero_le h.1
  have := andI_nat (m := m) (n := 65535) (by decide)
  rw [show (65535 : Int) = ((65535 : Nat) : Int) from rfl, this, Nat.mod_eq_of_lt (by omega), show (65535 : Nat) = 2 ^ 16 - 1 from rfl, Nat.and_two_pow_sub_one_eq_mod, Nat.mod_eq_of_lt (by omega)]






theorem spanD_mem {l : List Span} {i : Nat} (h : i < l.length) : l.getD i (FT.zero .span) ∈ l := by
  rw [List.getD_eq_getElem?_getD, List.getElem?_eq_getElem h]; exact List.getElem_mem h

def Ord (l : List Span) : Prop := l.Pairwise (fun a b => a.at_ < b.at_)
theorem ord_of {l : List Span} (h : ∀ j, 0 < j → j < l.length → (l.getD (j - 1) (FT.zero .span)).at_ < (l.getD j (FT.zero .span)).at_) : Ord l := by
  have key : ∀ d i : Nat, i + d + 1 < l.length → (l.getD i (FT.zero .span)).at_ < (l.getD (i + d + 1) (FT.zero .span)).at_ := by
    intro d
    induction d with
    | zero => intro i hi; have := h (i + 1) (by omega) hi; simpa using this
    | succ d ih =>
      intro i hi
      have h1 := ih i (by omega)
      have h2 := h (i + (d + 1) + 1) (by omega) hi
      rw [show i + (d + 1) + 1 - 1 = i + d + 1 by omega] at h2
      omega
  refine List.pairwise_iff_getElem.2 fun i j hi hj hij => ?_
  have := key (j - i - 1) i (by omega)
  rw [show i + (j - i - 1) + 1 = j by omega] at this
  simpa [List.getD_eq_getElem?_getD, hi, hj] using this
theorem ord_step {l : List Span} (h : Ord l) {j : Nat} (h0 : 0 < j) (hj : j < l.length) : (l.getD (j - 1) (FT.zero .span)).at_ < (l.getD j (FT.zero .span)).at_ := by
  have := List.pairwise_iff_getElem.1 h (j - 1) j (by omega) hj (by omega)
  simpa [List.getD_eq_getElem?_getD, hj, show j - 1 < l.length by omega] using this
theorem spansOk_ord {l : List Span} : spansOk l = true ↔ (∀ s ∈ l, spanOk s = true) ∧ Ord l := by
  rw [spansOk_iff]
  constructor
  · intro h
    refine ⟨spansOk_mem (spansOk_iff.2 h), ord_of fun j h0 hj => ?_⟩
    have := ((spanChk_iff l j).1 (h j hj)).2
    omega
  · rintro ⟨h1, h2⟩ j hj
    have hs := h1 _ (spanD_mem hj)
    rw [spanChk_iff]
    simp only [spanOk, Bool.and_eq_true, inR_t] at hs
    refine ⟨hs, ?_⟩
    by_cases h0 : j = 0
    · exact .inl h0
    · exact .inr (ord_step h2 (by omega) hj)


theorem ord_ge {l : List Span} (h : spansOk l = true) : ∀ j : Nat, j < l.length → (j : Int) ≤ (l.getD j (FT.zero .span)).at_ := by
  obtain ⟨h1, h2⟩ := spansOk_ord.1 h
  intro j
  induction j with
  | zero =>
    intro hj
    have hs := h1 _ (spanD_mem hj)
    simp only [spanOk, Bool.and_eq_true, inR_t] at hs
    omega
  | succ j ih =>
    intro hj
    have := ih (by omega)
    have := ord_step h2 (show 0 < j + 1 by omega) hj
    rw [Nat.add_sub_cancel] at this
    omega
theorem spansOk_len {l : List Span} (h : spansOk l = true) : l.length ≤ 24 := by
  by_cases h0 : l.length = 0
  · omega
  · have hj : l.length - 1 < l.length := by omega
    have := ord_ge h (l.length - 1) hj
    have hs := (spansOk_ord.1 h).1 _ (spanD_mem hj)
    simp only [spanOk, Bool.and_eq_true, inR_t] at hs
    omega
theorem heapOk_iff {h : Heap} : heapOk h = true ↔ memoryOk h.mem = true ∧ spansOk h.live = true ∧ spansOk h.waits = true ∧ ∀ c, c < 24 → cnt h.live c + cnt h.waits c ≤ 1 ∧ h.mem.gone.getD c false = decide (0 < cnt h.waits c) := by
  simp only [heapOk, Bool.and_eq_true, allR_iff, decide_eq_true_eq, beq_iff_eq, and_assoc]
theorem heapOk_len {h : Heap} (k : heapOk h = true) : LHeap h 24 := by
  obtain ⟨h1, h2, h3, h4⟩ := heapOk_iff.1 k
  obtain ⟨m1, m2, m3⟩ := memoryOk_iff.1 h1
  exact ⟨⟨by omega, by omega⟩, spansOk_len h2, spansOk_len h3⟩
def InSpan (l : List Span) (w : Word) : Prop := w.is = true → w.key.base < w.key.top → ∃ s ∈ l, s.at_ ≤ w.key.base ∧ w.key.top ≤ s.at_ + s.len
structure Good (h : Heap) (rs : List Word) : Prop where
  ok : heapOk h = true
  regs : ∀ w ∈ rs, wordOk w = true ∧ InSpan (h.live ++ h.waits) w
  mem : ∀ w ∈ h.mem.words, InSpan (h.live ++ h.waits) w
theorem Good.len {h : Heap} {rs : List Word} (g : Good h rs) : LHeap h 24 := heapOk_len g.ok



theorem idxGo_out {α : Type} {p : α → Bool} (z : α) : ∀ (xs : List α) (i : Nat), 0 ≤ idxGo p xs i → ∃ k : Nat, idxGo p xs i = ((i + k : Nat) : Int) ∧ k < xs.length ∧ p (xs.getD k z) = true ∧ ∀ j, j < k → p (xs.getD j z) = false
  | [], i, h => by simp [idxGo] at h
  | x :: xs, i, h => by
    unfold idxGo at h ⊢
    split
    · exact ⟨0, rfl, by simp, by simpa using ‹p x = true›, fun j hj => absurd hj (Nat.not_lt_zero _)⟩
    · rename_i hp
      rw [if_neg hp] at h
      obtain ⟨k, e, hk, hk1, hk2⟩ := idxGo_out z xs (i + 1) h
      refine ⟨k + 1, by rw [e]; congr 1; omega, by simpa using hk, by simpa using hk1, fun j hj => ?_⟩
      cases j with
      | zero => simpa using hp
      | succ j => simpa using hk2 j (by omega)
theorem idxOf_cases {α : Type} (p : α → Bool) (z : α) (xs : List α) : (idxOf p xs < 0 ∧ ∀ j, j < xs.length → p (xs.getD j z) = false) ∨
    ∃ k : Nat, idxOf p xs = (k : Int) ∧ k < xs.length ∧ p (xs.getD k z) = true ∧ ∀ j, j < k → p (xs.getD j z) = false := by
  by_cases h : 0 ≤ idxOf p xs
  · obtain ⟨k, e, h1, h2, h3⟩ := idxGo_out z xs 0 h
    exact .inr ⟨k, by rw [show idxOf p xs = idxGo p xs 0 from rfl, e, Nat.zero_add], h1, h2, h3⟩
  · refine .inl ⟨by omega, fun j hj => ?_⟩
    have ha := idxOf_any p xs
    rw [decide_eq_false h] at ha
    have := List.any_eq_false.1 ha.symm (xs.getD j z) (by rw [List.getD_eq_getElem?_getD, List.getElem?_eq_getElem hj]; exact List.getElem_mem hj)
    simpa using this









def InI (n : Int) : Prop := -9223372036854775808 ≤ n ∧ n ≤ 9223372036854775807
def InS (x : Seen) : Prop := InI x.at_ ∧ InI x.r ∧ InI x.addr

/-! strictly ascending lists: they are what their members are -/
def Asc (l : List Int) : Prop := l.Pairwise (fun a b => a < b)
theorem asc_ext : ∀ {a b : List Int}, Asc a → Asc b → (∀ x, x ∈ a ↔ x ∈ b) → a = b
  | [], [], _, _, _ => rfl
  | [], y :: b, _, _, h => by have := (h y).2 (by simp); cases this
  | x :: a, [], _, _, h => by have := (h x).1 (by simp); cases this
  | x :: a, y :: b, ha, hb, h => by
    obtain ⟨ha1, ha2⟩ := List.pairwise_cons.1 ha
    obtain ⟨hb1, hb2⟩ := List.pairwise_cons.1 hb
    have e : x = y := by
      have h1 := (h x).1 (by simp)
      have h2 := (h y).2 (by simp)
      rcases List.mem_cons.1 h1 with h1 | h1
      · exact h1
      · rcases List.mem_cons.1 h2 with h2 | h2
        · exact h2.symm
        · have := ha1 y h2
          have := hb1 x h1
          omega
    subst e
    congr 1
    refine asc_ext ha2 hb2 fun z => ?_
    have hz := h z
    simp only [List.mem_cons] at hz
    constructor
    · intro hm
      have := ha1 z hm
      rcases hz.1 (.inr hm) with h3 | h3
      · omega
      · exact h3
    · intro hm
      have := hb1 z hm
      rcases hz.2 (.inr hm) with h3 | h3
      · omega
      · exact h3
def compGo (p : Int) : List Int → List Int
  | [] => []
  | y :: ys => if y = p then compGo p ys else y :: compGo y ys
def compI : List Int → List Int
  | [] => []
  | x :: xs => x :: compGo x xs
def Up (l : List Int) : Prop := l.Pairwise (fun a b => a ≤ b)
theorem compGo_mem : ∀ {l : List Int} {p x : Int}, x ∈ compGo p l → x ∈ l
  | y :: ys, p, x, h => by
    unfold compGo at h
    split at h
    · exact List.mem_cons_of_mem _ (compGo_mem h)
    · rcases List.mem_cons.1 h with h | h
      · rw [h]; simp
      · exact List.mem_cons_of_mem _ (compGo_mem h)
theorem compGo_in : ∀ {l : List Int} {p x : Int}, x ∈ l → x = p ∨ x ∈ compGo p l
  | y :: ys, p, x, h => by
    unfold compGo
    rcases List.mem_cons.1 h with h | h
    · split
      · left; omega
      · right; rw [h]; simp
    · split
      · exact compGo_in h
      · rcases compGo_in (p := y) h with h | h
        · right; rw [h]; simp
        · right; exact List.mem_cons_of_mem _ h
theorem compGo_asc : ∀ {l : List Int} {p : Int}, Up (p :: l) → Asc (p :: compGo p l)
  | [], p, _ => List.pairwise_singleton _ _
  | y :: ys, p, h => by
    obtain ⟨h1, h2⟩ := List.pairwise_cons.1 h
    unfold compGo
    split
    · rename_i e
      subst e
      exact compGo_asc h2
    · rename_i e
      have hy := h1 y (by simp)
      have ih := compGo_asc h2
      refine List.pairwise_cons.2 ⟨fun z hz => ?_, ih⟩
      rcases List.mem_cons.1 hz with hz | hz
      · omega
      · have := (List.pairwise_cons.1 ih).1 z hz
        omega
theorem compI_asc : ∀ {l : List Int}, Up l → Asc (compI l)
  | [], _ => List.Pairwise.nil
  | _ :: _, h => compGo_asc h
theorem compI_mem {l : List Int} {x : Int} : x ∈ compI l ↔ x ∈ l := by
  cases l with
  | nil => exact Iff.rfl
  | cons y ys =>
    unfold compI
    constructor
    · intro h
      rcases List.mem_cons.1 h with h | h
      · rw [h]; simp
      · exact List.mem_cons_of_mem _ (compGo_mem h)
    · intro h
      rcases List.mem_cons.1 h with h | h
      · rw [h]; simp
      · rcases compGo_in (p := y) h with h | h
        · rw [h]; simp
        · exact List.mem_cons_of_mem _ h

def sortedI (xs : List Int) : List Int := xs.mergeSort fun x y => decide (x ≤ y)
theorem sortedI_up (xs : List Int) : Up (sortedI xs) := by
  have := List.pairwise_mergeSort (le := fun x y : Int => decide (x ≤ y)) (fun a b c h1 h2 => by
    simp only [decide_eq_true_eq] at h1 h2 ⊢; omega) (fun a b => by
    simp only [Bool.or_eq_true, decide_eq_true_eq]; omega) xs
  exact this.imp (fun h => of_decide_eq_true h)
theorem sortedI_mem {xs : List Int} {x : Int} : x ∈ sortedI xs ↔ x ∈ xs := List.mem_mergeSort
def setI (xs : List Int) : List Int := compI (sortedI xs)
theorem setI_asc (xs : List Int) : Asc (setI xs) := compI_asc (sortedI_up xs)
theorem setI_mem {xs : List Int} {x : Int} : x ∈ setI xs ↔ x ∈ xs := by
  unfold setI; rw [compI_mem, sortedI_mem]
theorem setI_len (xs : List Int) : (setI xs).length ≤ xs.length := by
  have h1 : ∀ (l : List Int) (p : Int), (compGo p l).length ≤ l.length := by
    intro l
    induction l with
    | nil => intro p; exact Nat.le_refl _
    | cons y ys ih =>
      intro p
      unfold compGo
      split
      · have := ih p; simp only [List.length_cons]; omega
      · have := ih y; simp only [List.length_cons]; omega
  have h2 : (sortedI xs).length = xs.length := List.length_mergeSort xs
  unfold setI
  cases hs : sortedI xs with
  | nil => exact Nat.zero_le _
  | cons y ys =>
    rw [hs] at h2
    have := h1 ys y
    unfold compI
    simp only [List.length_cons] at h2 ⊢
    omega

def pf_slices_Sort_int : PF := ⟨[], .seq (.reg [.s (.mv 3 (.t 0)), .s (.len 4 false (.t 3)), .s (.mv 2 (.t 4))]) (.reg [.s (.mv 5 (.t 0)), .s (.mv 6 (.t 2)), .s (.mv 7 (.t 2)), .s (.conv 8 .u64 (.t 7)), .s (.call (some 9) 154 [(.t 8)]), .s (.call (some 10) 153 [(.t 5), (.k (.v (.c (.int .i64 0)))), (.t 6), (.t 9)])])⟩
def c_slices_Sort_int : Fun := sortFun 110
theorem ok_slices_Sort_int : FunOk Tryz.prog c_slices_Sort_int :=
  sort_ok (callable_of Tryz.func110 (pf := pf_slices_Sort_int) (by kernel_rfl)) (fun blk off cap zs w h1 h2 h3 => Tryz.slices_Sort_int blk off cap zs w h1 h2 h3) (fun p cap w => Tryz.slices_Sort_int_none p cap w)

/-! neighbours that are alike, in place -/
def endI (p : Int) : List Int → Int
  | [] => p
  | y :: ys => endI y ys
theorem compGo_snoc : ∀ (l : List Int) (p x : Int), compGo p (l ++ [x]) = if x = endI p l then compGo p l else compGo p l ++ [x]
  | [], p, x => by
    simp only [List.nil_append, compGo, endI]
    rfl
  | y :: ys, p, x => by
    have ih := compGo_snoc ys y x
    have e1 : compGo p (y :: ys ++ [x]) = if y = p then compGo p (ys ++ [x]) else y :: compGo y (ys ++ [x]) := rfl
    have e2 : compGo p (y :: ys) = if y = p then compGo p ys else y :: compGo y ys := rfl
    by_cases hx : x = endI y ys
    · rw [if_pos hx] at ih
      rw [if_pos (show x = endI p (y :: ys) from hx), e1, e2]
      by_cases h : y = p
      · rw [if_pos h, if_pos h, ← h, ih]
      · rw [if_neg h, if_neg h, ih]
    · rw [if_neg hx] at ih
      rw [if_neg (show ¬ x = endI p (y :: ys) from hx), e1, e2]
      by_cases h : y = p
      · rw [if_pos h, if_pos h, ← h, ih]
      · rw [if_neg h, if_neg h, ih, List.cons_append]
theorem endI_getD : ∀ (l : List Int) (p : Int), endI p l = (p :: l).getD l.length 0
  | [], p => rfl
  | y :: ys, p => by
    simp only [endI]
    rw [endI_getD ys y]
    simp
theorem compI_snoc {l : List Int} (x : Int) (h : 0 < l.length) : compI (l ++ [x]) = if x = l.getD (l.length - 1) 0 then compI l else compI l ++ [x] := by
  cases l with
  | nil => simp at h
  | cons y ys =>
    simp only [List.cons_append, compI]
    rw [compGo_snoc, endI_getD]
    simp only [List.length_cons, Nat.add_sub_cancel]
    split <;> rfl
theorem take_snoc {α : Type} {s : List α} {m : Nat} {z : α} (h : m < s.length) : s.take (m + 1) = s.take m ++ [s.getD m z] := by
  rw [List.take_add_one, List.getElem?_eq_getElem h, List.getD_eq_getElem?_getD, List.getElem?_eq_getElem h]; rfl
theorem compI_step {s : List Int} {m : Nat} (h0 : 0 < m) (h : m < s.length) : compI (s.take (m + 1)) = if s.getD m (FT.zero (.int .i64)) = s.getD (m - 1) (FT.zero (.int .i64)) then compI (s.take m) else compI (s.take m) ++ [s.getD m (FT.zero (.int .i64))] := by
  have hl : (s.take m).length = m := by rw [List.length_take]; omega
  rw [take_snoc (z := FT.zero (.int .i64)) h, compI_snoc _ (by omega), hl]
  have e : (s.take m).getD (m - 1) 0 = s.getD (m - 1) (FT.zero (.int .i64)) := by
    rw [List.getD_eq_getElem?_getD, List.getD_eq_getElem?_getD, List.getElem?_take, if_pos (by omega)]; rfl
  rw [e]
theorem over_take {α : Type} (c z : List α) (a : Nat) (h : a ≤ c.length) : win (over c (0 + a) z) 0 a = c.take a := by
  unfold win over
  rw [List.drop_zero, Nat.zero_add, List.append_assoc, List.take_append_of_le_length (by rw [List.length_take]; omega), List.take_take, Nat.min_self]
theorem over_len0 {α : Type} (c z : List α) (a : Nat) (h : a + z.length ≤ c.length) : (over c (0 + a) z).length = c.length := by
  unfold over
  simp only [List.length_append, List.length_take, List.length_drop]; omega
theorem dropK_getD {α : Type} {c s : List α} {k i : Nat} (z : α) (h : c.drop k = s.drop k) (hk : k ≤ i) : c.getD i z = s.getD i z := by
  have := congrArg (fun l => l.getD (i - k) z) h
  simp only [List.getD_eq_getElem?_getD, List.getElem?_drop] at this ⊢
  rw [show k + (i - k) = i by omega] at this
  exact this
theorem drop_set {α : Type} {c s : List α} {k : Nat} {v : α} (h : c.drop k = s.drop k) : (c.set k v).drop (k + 1) = s.drop (k + 1) := by
  have e : (c.set k v).drop (k + 1) = c.drop (k + 1) := by rw [List.drop_set]; simp
  rw [e]
  have := congrArg (List.drop 1) h
  simpa [List.drop_drop, Nat.add_comm] using this
theorem take_set_snoc {α : Type} {c : List α} {k : Nat} {v : α} (h : k < c.length) : (c.set k v).take (k + 1) = c.take k ++ [v] := by
  rw [take_snoc (z := v) (by simpa using h), List.take_set_of_le (Nat.le_refl _)]
  simp [List.getD_eq_getElem?_getD, h]

def lb_slices_Compact_int_0 : PC := .seq (.seq (.reg [.s (.mv 29 (.t 5)), .s (.mv 30 (.t 4)), .s (.len 31 false (.t 30)), .s (.bin 32 .lss (.t 29) (.t 31))]) (.cond (.t 32) (.skip) (.exit 2))) (.seq (.blk 3 (.seq (.rgd [] [.s (.mv 35 (.t 4)), .s (.mv 36 (.t 5)), .s (.ia 37 (.int .i64) (.t 35) (.t 36)), .s (.load 38 false 1 (.t 37)), .s (.mv 39 (.t 4)), .s (.mv 40 (.t 5)), .s (.bin 41 .sub (.t 40) (.k (.v (.c (.int .i64 1))))), .s (.ia 42 (.int .i64) (.t 39) (.t 41)), .s (.load 43 false 1 (.t 42)), .s (.bin 44 .neq (.t 38) (.t 43))] (.tk 0 (.tk 1 (.tk 2 (.tk 3 (.tk 4 (.tk 5 (.tk 6 (.tk 7 (.tk 8 (.tk 9 (.done none)))))))))))) (.cond (.t 44) (.seq (.reg [.s (.mv 45 (.t 0)), .s (.mv 46 (.t 3)), .s (.mv 47 (.t 4)), .s (.mv 48 (.t 5)), .s (.ia 49 (.int .i64) (.t 47) (.t 48)), .s (.load 50 false 1 (.t 49)), .s (.ia 51 (.int .i64) (.t 45) (.t 46)), .s (.store 1 (.t 51) (.t 50))]) (.reg [.s (.mv 52 (.t 3)), .s (.bin 53 .add (.t 52) (.k (.v (.c (.int .i64 1))))), .s (.mv 3 (.t 53))])) (.skip)))) (.reg [.s (.mv 33 (.t 5)), .s (.bin 34 .add (.t 33) (.k (.v (.c (.int .i64 1))))), .s (.mv 5 (.t 34))]))
def lb_slices_Compact_int_1 : PC := .seq (.seq (.reg [.s (.mv 10 (.t 3)), .s (.mv 11 (.t 0)), .s (.len 12 false (.t 11)), .s (.bin 13 .lss (.t 10) (.t 12))]) (.cond (.t 13) (.skip) (.exit 0))) (.seq (.blk 1 (.seq (.rgd [] [.s (.mv 16 (.t 0)), .s (.mv 17 (.t 3)), .s (.ia 18 (.int .i64) (.t 16) (.t 17)), .s (.load 19 false 1 (.t 18)), .s (.mv 20 (.t 0)), .s (.mv 21 (.t 3)), .s (.bin 22 .sub (.t 21) (.k (.v (.c (.int .i64 1))))), .s (.ia 23 (.int .i64) (.t 20) (.t 22)), .s (.load 24 false 1 (.t 23)), .s (.bin 25 .eql (.t 19) (.t 24))] (.tk 0 (.tk 1 (.tk 2 (.tk 3 (.tk 4 (.tk 5 (.tk 6 (.tk 7 (.tk 8 (.tk 9 (.done none)))))))))))) (.cond (.t 25) (.seq (.reg [.s (.mv 26 (.t 0)), .s (.mv 27 (.t 3)), .s (.slc 28 (.int .i64) (.t 26) (some (.t 27)) none), .s (.mv 4 (.t 28))]) (.seq (.seq (.reg [.s (.mv 5 (.k (.v (.c (.int .i64 1)))))]) (.blk 2 (.loop [0, 3, 4, 5] lb_slices_Compact_int_0))) (.seq (.reg [.s (.mv 54 (.t 0)), .s (.mv 55 (.t 3)), .s (.slc 56 (.int .i64) (.t 54) (some (.t 55)) none), .s (.clr (.int .i64) (.t 56))]) (.seq (.reg [.s (.mv 57 (.t 0)), .s (.mv 58 (.t 3)), .s (.slc 59 (.int .i64) (.t 57) none (some (.t 58))), .s (.mv 2 (.t 59))]) (.ret))))) (.skip)))) (.reg [.s (.mv 14 (.t 3)), .s (.bin 15 .add (.t 14) (.k (.v (.c (.int .i64 1))))), .s (.mv 3 (.t 15))]))
def pf_slices_Compact_int : PF := ⟨[.t 2], .seq (.reg [.s (.mv 2 (.k (.v (.c (.nils (.int .i64))))))]) (.seq (.seq (.reg [.s (.mv 6 (.t 0)), .s (.len 7 false (.t 6)), .s (.bin 8 .lss (.t 7) (.k (.v (.c (.int .i64 2)))))]) (.cond (.t 8) (.seq (.reg [.s (.mv 9 (.t 0)), .s (.mv 2 (.t 9))]) (.ret)) (.skip))) (.seq (.seq (.reg [.s (.mv 3 (.k (.v (.c (.int .i64 1)))))]) (.blk 0 (.loop [0, 3] lb_slices_Compact_int_1))) (.seq (.reg [.s (.mv 60 (.t 0)), .s (.mv 2 (.t 60))]) (.ret))))⟩
def c_slices_Compact_int : Fun := ⟨112, [true], fun ts K => as1 ts fun t0 => arC (pO (.int .i64)) t0 fun s => chk (s.length ≤ 2147483647) (K (tL true (.int .i64) (compI s)) ([.v (.c .unk)]))⟩
theorem run_slices_Compact_int (s : List (FT.Ty (.int .i64))) (hpre : s.length ≤ 2147483647) : runK [] (s.length + 1) [true] pf_slices_Compact_int [tL true (.int .i64) s] fun r o => r = tL true (.int .i64) (compI s) ∧ o = [.v (.c .unk)] := by
  conv => whnf
  repeat' (first | (refine sel_i (fun h => ?_) (fun h => ?_) <;> conv => whnf) | (refine chk_c ?_ ?_ <;> conv => whnf) | (refine And.intro ?_ rfl) | (refine And.intro ?_ ?_ <;> conv => whnf))
  · have hl : s.length < 2 := by have := of_decide_eq_true h; omega
    have e : compI s = s := by
      match s, hl with
      | [], _ => rfl
      | [x], _ => rfl
    rw [e]
  · have hl : 2 ≤ s.length := by have := of_decide_eq_false h; omega
    refine loop (α := Nat) (fun k => ⟨[(0, .v (.c (.sl false (.int .i64) 0))), (3, .v (.c (.int .i64 (k : Int))))], [(0, some (.flat true (.int .i64) none s))], nums.tail, [.v (.c (.sl false (.int .i64) 0))], false, []⟩)
      (fun k => 1 ≤ k ∧ k ≤ s.length ∧ compI (s.take k) = s.take k) (fun k => s.length - k) (fun k R hI hR => ?_) 1 _ ⟨by omega, by omega, by
        match s, hl with
        | x :: y :: xs, _ => rfl⟩ (by omega)
    obtain ⟨hk1, hk, hx⟩ := hI
    have w1 : IntKind.i64.wrap ((k : Int) - 1) = (k : Int) - 1 := wrap_id (by omega) (by omega)
    have t1 : ((k : Int) - 1).toNat = k - 1 := by omega
    conv => whnf
    repeat' (first | (refine sel_i (fun h => ?_) (fun h => ?_) <;> conv => whnf) | (refine chk_c ?_ ?_ <;> conv => whnf) | (refine And.intro ?_ rfl) | (refine And.intro ?_ ?_ <;> conv => whnf))
    all_goals (try simp only [w1, t1, Int.toNat_natCast, decide_eq_true_eq, decide_eq_false_iff_not, beq_iff_eq, beq_eq_false_iff_ne] at *)
    all_goals first
      | (refine ⟨?_⟩; omega)
      | (rw [List.take_of_length_le (by omega)] at hx; rw [hx]; done)
      | (rw [wrap_id (n := (k : Int) + 1) (by omega) (by omega)]; exact hR (k + 1) ⟨by omega, by omega, by rw [compI_step (by omega) (by omega), if_neg (by assumption), hx, take_snoc (z := FT.zero (.int .i64)) (by omega)]⟩ (by omega))
      | skip
    rename_i hlt
    have hs2 : ((s.length : Int) - k).toNat = s.length - k := by omega
    rw [Nat.zero_add, hs2]
    clear hR
    refine loop (α := Nat × Nat × List Int) (fun p => ⟨[(0, .v (.c (.sl false (.int .i64) 0))), (3, .v (.c (.int .i64 (p.1 : Int)))), (4, .v (.c (.slp false (.int .i64) 0 k (s.length - k)))), (5, .v (.c (.int .i64 (p.2.1 : Int))))], [(0, some (.flat true (.int .i64) none p.2.2))], nums.tail, [.v (.c (.sl false (.int .i64) 0))], false, []⟩)
      (fun p => k ≤ p.1 ∧ p.1 + 1 ≤ k + p.2.1 ∧ k + p.2.1 ≤ s.length ∧ p.2.2.length = s.length ∧ p.2.2.take p.1 = compI (s.take (k + p.2.1)) ∧ p.2.2.drop p.1 = s.drop p.1) (fun p => s.length - k - p.2.1) (fun p R hI hR => ?_) (k, 1, s) _
      ⟨by simp, by simp, by dsimp only; omega, rfl, by dsimp only; rw [compI_step (by omega) (by omega), if_pos h, hx], rfl⟩ (by dsimp only; omega)
    obtain ⟨a, b, c⟩ := p
    obtain ⟨h1, h2, h3, h4, h5, h6⟩ := hI
    dsimp only at h1 h2 h3 h4 h5 h6 ⊢
    have w2 : IntKind.i64.wrap ((b : Int) - 1) = (b : Int) - 1 := wrap_id (by omega) (by omega)
    have t2 : ((b : Int) - 1).toNat = b - 1 := by omega
    conv => whnf
    repeat' (first | (refine sel_i (fun h => ?_) (fun h => ?_) <;> conv => whnf) | (refine chk_c ?_ ?_ <;> conv => whnf) | (refine And.intro ?_ rfl) | (refine And.intro ?_ ?_ <;> conv => whnf))
    all_goals (try simp only [w2, t2, Int.toNat_natCast, decide_eq_true_eq, decide_eq_false_iff_not, bne_iff_ne, bne_eq_false_iff_eq, ne_eq] at *)
    all_goals first
      | (refine ⟨?_⟩; omega)
      | skip
    · rw [wrap_id (n := (a : Int) + 1) (by omega) (by omega), wrap_id (n := (b : Int) + 1) (by omega) (by omega)]
      refine hR (a + 1, b + 1, c.set a (c.getD (k + b) (FT.zero (.int .i64)))) ⟨by dsimp only; omega, by dsimp only; omega, by dsimp only; omega, by dsimp only; simpa using h4, ?_, drop_set h6⟩ (by dsimp only; omega)
      dsimp only
      have g1 := dropK_getD (FT.zero (.int .i64)) h6 (show a ≤ k + b by omega)
      have g2 := dropK_getD (FT.zero (.int .i64)) h6 (show a ≤ k + (b - 1) by omega)
      rw [g1, g2] at h
      rw [take_set_snoc (by omega), show k + (b + 1) = (k + b) + 1 by omega, compI_step (by omega) (by omega), show k + b - 1 = k + (b - 1) by omega, if_neg h, h5, g1]
    · rw [wrap_id (n := (b : Int) + 1) (by omega) (by omega)]
      refine hR (a, b + 1, c) ⟨h1, by dsimp only; omega, by dsimp only; omega, h4, ?_, h6⟩ (by dsimp only; omega)
      dsimp only
      have g1 := dropK_getD (FT.zero (.int .i64)) h6 (show a ≤ k + b by omega)
      have g2 := dropK_getD (FT.zero (.int .i64)) h6 (show a ≤ k + (b - 1) by omega)
      rw [g1, g2] at h
      rw [show k + (b + 1) = (k + b) + 1 by omega, compI_step (by omega) (by omega), show k + b - 1 = k + (b - 1) by omega, if_pos h, h5]
    · refine ⟨?_⟩
      rw [over_len0 _ _ _ (by rw [List.length_replicate]; omega)]; omega
    · rw [over_take _ _ _ (by omega), h5, List.take_of_length_le (by omega)]
theorem ok_slices_Compact_int : FunOk Tryz.prog c_slices_Compact_int := funOk (E := []) (envOk_nil) mixd Tryz.func112 (pf := pf_slices_Compact_int) (by kernel_rfl) fun ts K h => by
  obtain ⟨t0, e0, h⟩ := as1_out h
  subst e0
  obtain ⟨s, e1, hq⟩ := arC_out (rd_o (.int .i64)) h
  clear h
  subst e1
  have h := hq
  clear hq
  obtain ⟨hpre, h⟩ := chk_o h
  exact ⟨_, _, h, Nat.le_of_ble_eq_true (show Nat.ble 1 Tryz.f112.ntmps = true by kernel_rfl), _, run_slices_Compact_int s hpre⟩

def pf_impl_nextPlaces_1 : PF := ⟨[.t 3], .seq (.reg [.s (.mv 3 (.k (.v (.c .ff))))]) (.seq (.reg [.s (.mv 4 (.t 0)), .s (.load 5 false 1 (.t 1)), .s (.len 6 false (.t 5)), .s (.bin 7 .sub (.t 6) (.k (.v (.c (.int .i64 1))))), .s (.call (some 8) 36 [(.t 4), (.k (.v (.c (.int .i64 0)))), (.t 7)]), .s (.bnot 9 (.t 8)), .s (.mv 3 (.t 9))]) (.ret))⟩
def c_impl_nextPlaces_1 : Fun := ⟨113, [], fun ts K => as2 ts fun t0 t1 => arC (pI .i64) t0 fun n => arP (pL .inst) t1 fun g => chk (g.length ≤ 2147483647) (K (tB (!inR n 0 (g.length - 1))) [])⟩
theorem run_impl_nextPlaces_1 (n : Int) (g : List (FT.Ty .inst)) (hpre : g.length ≤ 2147483647) : runK [c_impl_in] (0) [] pf_impl_nextPlaces_1 [tI .i64 n, .v (.ptr false 0 [tl false .inst g])] fun r o => r = tB (!inR n 0 (g.length - 1)) ∧ o = [] := by
  have w1 : IntKind.i64.wrap ((g.length : Int) - 1) = (g.length : Int) - 1 := wrap_id (by omega) (by omega)
  conv => whnf
  repeat' (first | (refine sel_i (fun h => ?_) (fun h => ?_) <;> conv => whnf) | (refine chk_c ?_ ?_ <;> conv => whnf) | (refine And.intro ?_ rfl) | (refine And.intro ?_ ?_ <;> conv => whnf))
  all_goals (simp only [w1])
theorem ok_impl_nextPlaces_1 : FunOk Tryz.prog c_impl_nextPlaces_1 := funOk (E := [c_impl_in]) (envOk_cons ok_impl_in (envOk_nil)) mixd Tryz.func113 (pf := pf_impl_nextPlaces_1) (by kernel_rfl) fun ts K h => by
  obtain ⟨t0, t1, e0, h⟩ := as2_out h
  subst e0
  obtain ⟨n, e1, hq⟩ := arC_out (rd_int .i64) h
  clear h
  subst e1
  have h := hq
  clear hq
  obtain ⟨g, e1, hq⟩ := arP_out (rd_l .inst) h
  clear h
  subst e1
  have h := hq
  clear hq
  obtain ⟨hpre, h⟩ := chk_o h
  exact ⟨_, _, h, Nat.le_of_ble_eq_true (show Nat.ble 2 Tryz.f113.ntmps = true by kernel_rfl), _, run_impl_nextPlaces_1 n g hpre⟩

def lb_slices_IndexFunc_int_0 : PC := .seq (.reg [.s (.bin 9 .lss (.t 8) (.t 7))]) (.seq (.cond (.t 9) (.skip) (.exit 0)) (.seq (.blk 1 (.seq (.reg [.s (.mv 10 (.t 8)), .s (.mv 5 (.t 10))]) (.seq (.reg [.s (.mv 11 (.t 1)), .s (.mv 12 (.t 0)), .s (.mv 13 (.t 5)), .s (.ia 14 (.int .i64) (.t 12) (.t 13)), .s (.load 15 false 1 (.t 14)), .s (.callv (some 16) (.t 11) [(.t 15)])]) (.cond (.t 16) (.seq (.reg [.s (.mv 17 (.t 5)), .s (.mv 4 (.t 17))]) (.ret)) (.skip))))) (.reg [.s (.bin 18 .add (.t 8) (.k (.v (.c (.int .i64 1))))), .s (.mv 8 (.t 18))])))
def pf_slices_IndexFunc_int : PF := ⟨[.t 4], .seq (.reg [.s (.mv 4 (.k (.v (.c (.int .i64 0)))))]) (.seq (.seq (.reg [.s (.mv 6 (.t 0)), .s (.len 7 false (.t 6)), .s (.mv 8 (.k (.v (.c (.int .i64 0)))))]) (.blk 0 (.loop [0, 1, 7, 8] lb_slices_IndexFunc_int_0))) (.seq (.reg [.s (.mv 4 (.k (.v (.c (.int .i64 (-1))))))]) (.ret)))⟩
def c_slices_IndexFunc_int__impl_nextPlaces_1 : Fun := ⟨155, [], fun ts K => as2 ts fun t0 t1 => arC (pL (.int .i64)) t0 fun xs => arF1 113 (pL .inst) t1 fun g => chk (xs.length ≤ 2147483647 ∧ g.length ≤ 2147483647) (K (tN (idxOf (fun n => !inR n 0 (g.length - 1)) xs)) [])⟩
theorem run_slices_IndexFunc_int__impl_nextPlaces_1 (xs : List (FT.Ty (.int .i64))) (g : List (FT.Ty .inst)) (hpre : xs.length ≤ 2147483647 ∧ g.length ≤ 2147483647) : runK [c_impl_nextPlaces_1] (xs.length + 1) [] pf_slices_IndexFunc_int [tL false (.int .i64) xs, .fn 113 [.ptr false 0 [tl false .inst g]]] fun r o => r = tN (idxOf (fun n => !inR n 0 (g.length - 1)) xs) ∧ o = [] := by
  conv => whnf
  refine loop (α := Nat) (fun i => ⟨[(0, .v (.c (.sl false (.int .i64) 0))), (1, .fn 113 [.c (.ptr 1 0)]), (7, .v (.c (.int .i64 (xs.length : Int)))), (8, .v (.c (.int .i64 (i : Int))))], [(2, some (.flat false .inst none g)), (1, some (.box false [.sl false .inst 2])), (0, some (.flat false (.int .i64) none xs))], nums.tail.tail.tail, [], false, []⟩)
      (fun i => i ≤ xs.length ∧ idxOf (fun n => !inR n 0 (g.length - 1)) xs = idxGo (fun n => !inR n 0 (g.length - 1)) (xs.drop i) i) (fun i => xs.length - i) (fun i R hI hR => ?_) 0 _ ⟨by simp, rfl⟩ (by simp)
  obtain ⟨hi, hx⟩ := hI
  conv => whnf
  refine sel_i (fun h2 => ?_) (fun h2 => ?_)
  · have hlt : i < xs.length := by simp at h2; omega
    conv => whnf
    repeat (refine chk_i (by first | omega | (simp; omega)) ?_; conv => whnf)
    refine sel_i (fun h3 => ?_) (fun h3 => ?_)
    · conv => whnf
      rw [hx, idxGo_yes (z := FT.zero (.int .i64)) hlt (by first | (simp only [keyEq] at h3; exact h3) | (simpa using h3))]
      exact ⟨rfl, rfl⟩
    · conv => whnf
      rw [wrap_id (n := (i : Int) + 1) (by omega) (by omega)]
      exact hR (i + 1) ⟨by omega, by rw [hx, idxGo_no (z := FT.zero (.int .i64)) hlt (by first | (simp only [keyEq] at h3; exact h3) | (simpa using h3))]⟩ (by omega)
  · conv => whnf
    rw [hx, idxGo_end (by simp at h2; omega)]
    exact ⟨rfl, rfl⟩
theorem ok_slices_IndexFunc_int__impl_nextPlaces_1 : FunOk Tryz.prog c_slices_IndexFunc_int__impl_nextPlaces_1 := funOk (E := [c_impl_nextPlaces_1]) (envOk_cons ok_impl_nextPlaces_1 (envOk_nil)) mixd Tryz.func155 (pf := pf_slices_IndexFunc_int) (by kernel_rfl) fun ts K h => by
  obtain ⟨t0, t1, e0, h⟩ := as2_out h
  subst e0
  obtain ⟨xs, e1, hq⟩ := arC_out (rd_l (.int .i64)) h
  clear h
  subst e1
  have h := hq
  clear hq
  obtain ⟨g, e1, hq⟩ := arF1_out (rd_l .inst) h
  clear h
  subst e1
  have h := hq
  clear hq
  obtain ⟨hpre, h⟩ := chk_o h
  exact ⟨_, _, h, Nat.le_of_ble_eq_true (show Nat.ble 2 Tryz.f155.ntmps = true by kernel_rfl), _, run_slices_IndexFunc_int__impl_nextPlaces_1 xs g hpre⟩

theorem filter_snoc {α : Type} {s : List α} {m : Nat} {z : α} (p : α → Bool) (h : m < s.length) : (s.take (m + 1)).filter p = if p (s.getD m z) then (s.take m).filter p ++ [s.getD m z] else (s.take m).filter p := by
  rw [take_snoc (z := z) h, List.filter_append]
  generalize s.getD m z = v
  cases hp : p v <;> simp [hp]
theorem filter_all {α : Type} {s : List α} {p : α → Bool} (z : α) {m : Nat} (hm : m ≤ s.length) (h : ∀ j, j < m → p (s.getD j z) = true) : (s.take m).filter p = s.take m := by
  rw [List.filter_eq_self]
  intro a ha
  obtain ⟨j, hj, e⟩ := List.mem_iff_getElem.1 ha
  rw [List.length_take] at hj
  have := h j (by omega)
  rw [List.getD_eq_getElem?_getD, List.getElem?_eq_getElem (by omega)] at this
  rw [List.getElem_take] at e
  rw [← e]; exact this

def lb_slices_DeleteFunc_int_0 : PC := .seq (.seq (.reg [.s (.mv 16 (.t 6)), .s (.mv 17 (.t 0)), .s (.len 18 false (.t 17)), .s (.bin 19 .lss (.t 16) (.t 18))]) (.cond (.t 19) (.skip) (.exit 0))) (.seq (.blk 1 (.seq (.reg [.s (.mv 22 (.t 0)), .s (.mv 23 (.t 6)), .s (.ia 24 (.int .i64) (.t 22) (.t 23)), .s (.load 25 false 1 (.t 24)), .s (.mv 7 (.t 25))]) (.seq (.reg [.s (.mv 26 (.t 1)), .s (.mv 27 (.t 7)), .s (.callv (some 28) (.t 26) [(.t 27)]), .s (.bnot 29 (.t 28))]) (.cond (.t 29) (.seq (.reg [.s (.mv 30 (.t 0)), .s (.mv 31 (.t 5)), .s (.mv 32 (.t 7)), .s (.ia 33 (.int .i64) (.t 30) (.t 31)), .s (.store 1 (.t 33) (.t 32))]) (.reg [.s (.mv 34 (.t 5)), .s (.bin 35 .add (.t 34) (.k (.v (.c (.int .i64 1))))), .s (.mv 5 (.t 35))])) (.skip))))) (.reg [.s (.mv 20 (.t 6)), .s (.bin 21 .add (.t 20) (.k (.v (.c (.int .i64 1))))), .s (.mv 6 (.t 21))]))
def pf_slices_DeleteFunc_int : PF := ⟨[.t 4], .seq (.reg [.s (.mv 4 (.k (.v (.c (.nils (.int .i64))))))]) (.seq (.reg [.s (.mv 8 (.t 0)), .s (.mv 9 (.t 1)), .s (.call (some 10) 155 [(.t 8), (.t 9)]), .s (.mv 5 (.t 10))]) (.seq (.seq (.reg [.s (.mv 11 (.t 5)), .s (.bin 12 .eql (.t 11) (.k (.v (.c (.int .i64 (-1))))))]) (.cond (.t 12) (.seq (.reg [.s (.mv 13 (.t 0)), .s (.mv 4 (.t 13))]) (.ret)) (.skip))) (.seq (.seq (.reg [.s (.mv 14 (.t 5)), .s (.bin 15 .add (.t 14) (.k (.v (.c (.int .i64 1))))), .s (.mv 6 (.t 15))]) (.blk 0 (.loop [0, 1, 5, 6] lb_slices_DeleteFunc_int_0))) (.seq (.reg [.s (.mv 36 (.t 0)), .s (.mv 37 (.t 5)), .s (.slc 38 (.int .i64) (.t 36) (some (.t 37)) none), .s (.clr (.int .i64) (.t 38))]) (.seq (.reg [.s (.mv 39 (.t 0)), .s (.mv 40 (.t 5)), .s (.slc 41 (.int .i64) (.t 39) none (some (.t 40))), .s (.mv 4 (.t 41))]) (.ret))))))⟩
def c_slices_DeleteFunc_int__impl_nextPlaces_1 : Fun := ⟨111, [true, false], fun ts K => as2 ts fun t0 t1 => arC (pO (.int .i64)) t0 fun s => arF1 113 (pL .inst) t1 fun g => chk (s.length ≤ 1000000 ∧ g.length ≤ 2147483647) (K (tL true (.int .i64) (s.filter (fun n => inR n 0 (g.length - 1)))) ([.v (.c .unk)]))⟩
theorem run_slices_DeleteFunc_int__impl_nextPlaces_1 (s : List (FT.Ty (.int .i64))) (g : List (FT.Ty .inst)) (hpre : s.length ≤ 1000000 ∧ g.length ≤ 2147483647) : runK [c_slices_IndexFunc_int__impl_nextPlaces_1, c_impl_nextPlaces_1] (s.length + 1) [true, false] pf_slices_DeleteFunc_int [tL true (.int .i64) s, .fn 113 [.ptr false 0 [tl false .inst g]]] fun r o => r = tL true (.int .i64) (s.filter (fun n => inR n 0 (g.length - 1))) ∧ o = [.v (.c .unk)] := by
  obtain ⟨l1, l2⟩ := hpre
  generalize hF : s.length + 1 = FU
  have hc := idxOf_cases (fun n => !inR n 0 (g.length - 1)) (FT.zero (.int .i64)) s
  have hm1 : -1 ≤ idxOf (fun n => !inR n 0 (g.length - 1)) s := (idxGo_lt (fun n => !inR n 0 (g.length - 1)) s 0).1
  conv => whnf
  refine chk_i ⟨by omega, l2⟩ ?_
  generalize idxOf (fun n => !inR n 0 (g.length - 1)) s = I at hc hm1 ⊢
  conv => whnf
  refine sel_i (fun h => ?_) (fun h => ?_)
  · conv => whnf
    have h : I = -1 := by simpa using h
    rcases hc with ⟨_, h2⟩ | ⟨k, e, _⟩
    · have e := filter_all (p := fun n => inR n 0 (g.length - 1)) (FT.zero (.int .i64)) (Nat.le_refl s.length) (fun j hj => by simpa using h2 j hj)
      rw [List.take_length] at e
      rw [e]; exact ⟨rfl, rfl⟩
    · omega
  have h : ¬ I = -1 := by simpa using h
  rcases hc with ⟨hn, h2⟩ | ⟨k, rfl, hk, hk1, hk2⟩
  · exfalso; omega
  as_aux_lemma =>
    have w1 : IntKind.i64.wrap ((k : Int) + 1) = ((k + 1 : Nat) : Int) := by rw [wrap_id (by omega) (by omega)]; rfl
    conv => whnf
    rw [w1]
    refine loop (α := Nat × Nat × List Int) (fun p => ⟨[(0, .v (.c (.sl false (.int .i64) 0))), (1, .fn 113 [.c (.ptr 1 0)]), (5, .v (.c (.int .i64 (p.1 : Int)))), (6, .v (.c (.int .i64 (p.2.1 : Int))))],
          [(2, some (.flat false .inst none g)), (1, some (.box false [.sl false .inst 2])), (0, some (.flat true (.int .i64) none p.2.2))], nums.tail.tail.tail, [.v (.c (.sl false (.int .i64) 0))], false, []⟩)
      (fun p => p.1 < p.2.1 ∧ p.2.1 ≤ s.length ∧ p.2.2.length = s.length ∧ p.2.2.take p.1 = (s.take p.2.1).filter (fun n => inR n 0 (g.length - 1)) ∧ p.2.2.drop p.2.1 = s.drop p.2.1) (fun p => s.length - p.2.1) (fun p R hI hR => ?_) (k, k + 1, s) _
      ⟨by simp, by dsimp only; omega, rfl, by
        dsimp only
        rw [filter_snoc (z := FT.zero (.int .i64)) _ hk, if_neg (by simpa using hk1)]
        exact (filter_all (FT.zero (.int .i64)) (by omega) (fun j hj => by simpa using hk2 j hj)).symm, rfl⟩ (by dsimp only; omega)
    obtain ⟨a, b, c⟩ := p
    obtain ⟨h1, h2, h3, h4, h5⟩ := hI
    dsimp only at h1 h2 h3 h4 h5 ⊢
    have w2 : IntKind.i64.wrap ((a : Int) + 1) = ((a + 1 : Nat) : Int) := by rw [wrap_id (by omega) (by omega)]; rfl
    have w3 : IntKind.i64.wrap ((b : Int) + 1) = ((b + 1 : Nat) : Int) := by rw [wrap_id (by omega) (by omega)]; rfl
    conv => whnf
    refine sel_i (fun h => ?_) (fun h => ?_)
    · have hb : b < s.length := by have := of_decide_eq_true h; omega
      clear h
      conv => whnf
      refine chk_i ⟨by omega, by omega⟩ ?_
      conv => whnf
      refine chk_i (by rw [Int.toNat_natCast]; omega) ?_
      conv => whnf
      refine chk_i l2 ?_
      have g1 := dropK_getD (FT.zero (.int .i64)) h5 (show b ≤ b by omega)
      rw [Int.toNat_natCast, g1]
      have h4' := filter_snoc (z := FT.zero (.int .i64)) (fun n => inR n 0 (g.length - 1)) hb
      generalize hv : s.getD b (FT.zero (.int .i64)) = v at h4' g1 ⊢
      generalize inR v 0 (g.length - 1) = q at h4' ⊢
      conv => whnf
      refine sel_i (fun h => ?_) (fun h => ?_)
      · have hq : q = true := by simpa using h
        rw [hq, if_pos rfl] at h4'
        conv => whnf
        refine chk_i ⟨by omega, by omega⟩ ?_
        conv => whnf
        refine chk_i (by rw [Int.toNat_natCast]; omega) ?_
        conv => whnf
        rw [w2, w3, Int.toNat_natCast]
        exact hR (a + 1, b + 1, c.set a v) ⟨by dsimp only; omega, by dsimp only; omega, by dsimp only; rw [List.length_set]; exact h3, by dsimp only; rw [take_set_snoc (by omega), h4, h4'], by dsimp only; rw [List.drop_set, if_pos (by omega)]; exact (by have := congrArg (List.drop 1) h5; simpa [List.drop_drop, Nat.add_comm] using this)⟩ (by dsimp only; omega)
      · have hq : q = false := by simpa using h
        rw [hq, if_neg (by decide)] at h4'
        conv => whnf
        rw [w3]
        exact hR (a, b + 1, c) ⟨by dsimp only; omega, by dsimp only; omega, h3, by dsimp only; rw [h4, h4'], by dsimp only; exact (by have := congrArg (List.drop 1) h5; simpa [List.drop_drop, Nat.add_comm] using this)⟩ (by dsimp only; omega)
    · have hb : b = s.length := by have := of_decide_eq_false h; omega
      clear h
      conv => whnf
      refine chk_i ⟨by omega, by omega⟩ ?_
      conv => whnf
      refine chk_i ?_ ?_
      · rw [Int.toNat_natCast, over_len0 _ _ _ (by rw [List.length_replicate]; omega)]; omega
      conv => whnf
      rw [Int.toNat_natCast, over_take _ _ _ (by omega), h4, List.take_of_length_le (by omega)]
      exact ⟨rfl, rfl⟩
theorem ok_slices_DeleteFunc_int__impl_nextPlaces_1 : FunOk Tryz.prog c_slices_DeleteFunc_int__impl_nextPlaces_1 := funOk (E := [c_slices_IndexFunc_int__impl_nextPlaces_1, c_impl_nextPlaces_1]) (envOk_cons ok_slices_IndexFunc_int__impl_nextPlaces_1 (envOk_cons ok_impl_nextPlaces_1 (envOk_nil))) mixd Tryz.func111 (pf := pf_slices_DeleteFunc_int) (by kernel_rfl) fun ts K h => by
  obtain ⟨t0, t1, e0, h⟩ := as2_out h
  subst e0
  obtain ⟨s, e1, hq⟩ := arC_out (rd_o (.int .i64)) h
  clear h
  subst e1
  have h := hq
  clear hq
  obtain ⟨g, e1, hq⟩ := arF1_out (rd_l .inst) h
  clear h
  subst e1
  have h := hq
  clear hq
  obtain ⟨hpre, h⟩ := chk_o h
  exact ⟨_, _, h, Nat.le_of_ble_eq_true (show Nat.ble 2 Tryz.f111.ntmps = true by kernel_rfl), _, run_slices_DeleteFunc_int__impl_nextPlaces_1 s g hpre⟩

/-! where a place goes on -/
def rangeI (n : Nat) : List Int := (List.range n).map (fun j : Nat => (j : Int))
theorem rangeI_succ (n : Nat) : rangeI (n + 1) = rangeI n ++ [(n : Int)] := by simp [rangeI, List.range_succ]
theorem rangeI_len (n : Nat) : (rangeI n).length = n := by simp [rangeI]
theorem rangeI_mem {n : Nat} {x : Int} : x ∈ rangeI n ↔ 0 ≤ x ∧ x < n := by
  unfold rangeI
  rw [List.mem_map]
  constructor
  · rintro ⟨j, hj, rfl⟩
    have := List.mem_range.1 hj
    omega
  · rintro ⟨h0, h1⟩
    exact ⟨x.toNat, List.mem_range.2 (by omega), by omega⟩
theorem rangeI_asc (n : Nat) : Asc (rangeI n) := by
  induction n with
  | zero => exact List.Pairwise.nil
  | succ n ih =>
    rw [rangeI_succ]
    refine List.pairwise_append.2 ⟨ih, List.pairwise_singleton _ _, fun a ha b hb => ?_⟩
    have := (rangeI_mem.1 ha).2
    have hb := List.mem_singleton.1 hb
    omega
def atI (l : List Inst) (a : Int) : Inst := l.getD a.toNat (FT.zero .inst)
def goesB (x : Inst) (a i : Int) : Bool := (i == a + 1 && x.op != 15) || (x.op == 13 && i == a + x.n) || x.op == 12
def nextI (l : List Inst) (a : Int) : List Int := (rangeI l.length).filter (goesB (atI l a) a)
def nextP (l : List Inst) (a : Int) : List Int := if codeOk l && inR a 0 (l.length - 1) then nextI l a else []
theorem codeOk_out {l : List Inst} (h : codeOk l = true) : 1 ≤ l.length ∧ l.length ≤ 48 ∧ ∀ x ∈ l, insOk x = true := by
  simp only [codeOk, Bool.and_eq_true, List.all_eq_true] at h
  have := inR_t.1 h.1
  exact ⟨by omega, by omega, h.2⟩
theorem nextI_len (l : List Inst) (a : Int) : (nextI l a).length ≤ l.length := by
  unfold nextI
  have := List.length_filter_le (goesB (atI l a) a) (rangeI l.length)
  rw [rangeI_len] at this
  exact this
theorem nextP_len (l : List Inst) (a : Int) : (nextP l a).length ≤ l.length := by
  unfold nextP
  split
  · exact nextI_len l a
  · exact Nat.zero_le _
theorem insOk_n {x : Inst} (h : insOk x = true) : -128 ≤ x.n ∧ x.n ≤ 127 := by
  simp only [insOk, Bool.and_eq_true] at h
  exact inR_t.1 h.1.2
theorem atI_ok {l : List Inst} (h : ∀ x ∈ l, insOk x = true) {a : Int} (h0 : 0 ≤ a) (h1 : a < l.length) : insOk (atI l a) = true := by
  unfold atI
  rw [List.getD_eq_getElem?_getD, List.getElem?_eq_getElem (by omega)]
  exact h _ (List.getElem_mem _)
theorem next_halt {l : List Inst} {a : Int} (h : (atI l a).op = 15) : nextI l a = [] := by
  unfold nextI
  rw [List.filter_eq_nil_iff]
  intro i _
  simp [goesB, h]
theorem next_jump {l : List Inst} {a : Int} (h : (atI l a).op = 12) : nextI l a = rangeI l.length := by
  unfold nextI
  rw [List.filter_eq_self]
  intro i _
  simp [goesB, h]
theorem asc_filter {l : List Int} (p : Int → Bool) (h : Asc l) : Asc (l.filter p) := List.Pairwise.filter p h
theorem next_set {l : List Inst} {a : Int} {xs : List Int} (h : ∀ i : Int, 0 ≤ i → i < l.length → (goesB (atI l a) a i = true ↔ i ∈ xs)) : (setI xs).filter (fun n => inR n 0 (l.length - 1)) = nextI l a := by
  refine asc_ext (asc_filter _ (setI_asc xs)) (asc_filter _ (rangeI_asc _)) fun i => ?_
  unfold nextI
  rw [List.mem_filter, List.mem_filter, setI_mem, rangeI_mem]
  constructor
  · rintro ⟨h1, h2⟩
    have h2 := inR_t.1 h2
    exact ⟨⟨by omega, by omega⟩, (h i (by omega) (by omega)).2 h1⟩
  · rintro ⟨⟨h1, h2⟩, h3⟩
    exact ⟨(h i h1 h2).1 h3, inR_t.2 ⟨by omega, by omega⟩⟩
theorem next_zero {l : List Inst} {a : Int} (h : (atI l a).op = 13) : (setI [a + (atI l a).n, a + 1]).filter (fun n => inR n 0 (l.length - 1)) = nextI l a :=
  next_set fun i _ _ => by simp [goesB, h, or_comm]
theorem next_one {l : List Inst} {a : Int} (h : ¬ (atI l a).op = 15) (h2 : ¬ (atI l a).op = 12) (h3 : ¬ (atI l a).op = 13) : (setI [a + 1]).filter (fun n => inR n 0 (l.length - 1)) = nextI l a :=
  next_set fun i _ _ => by simp [goesB, h, h2, h3]

def lb_impl_nextPlaces_0 : PC := .seq (.reg [.s (.bin 23 .lss (.t 22) (.t 21))]) (.seq (.cond (.t 23) (.skip) (.exit 1)) (.seq (.blk 2 (.seq (.reg [.s (.mv 24 (.t 22)), .s (.mv 7 (.t 24))]) (.reg [.s (.mv 25 (.t 5)), .s (.mv 26 (.t 7)), .s (.bs 27 (.int .i64) [(.t 26)]), .s (.app 28 (.int .i64) (.t 25) (.t 27)), .s (.mv 5 (.t 28))]))) (.reg [.s (.bin 29 .add (.t 22) (.k (.v (.c (.int .i64 1))))), .s (.mv 22 (.t 29))])))
def pf_impl_nextPlaces : PF := ⟨[.t 4], .seq (.reg [.s (.box 2 (.t 0)), .s (.mv 4 (.k (.v (.c (.nils (.int .i64))))))]) (.seq (.reg [.s (.bs 8 (.int .i64) []), .s (.mv 5 (.t 8))]) (.seq (.reg [.s (.load 9 false 1 (.t 2)), .s (.mv 10 (.t 1)), .s (.ia 11 .inst (.t 9) (.t 10)), .s (.load 12 true 5 (.t 11)), .s (.alloc 6 [.int .i64 0, .int .i64 0, .int .i64 0, .int .i64 0, .int .i64 0]), .s (.store 5 (.t 6) (.t 12))]) (.seq (.seq (.reg [.s (.fa 13 (.t 6) 0), .s (.load 14 false 1 (.t 13))]) (.blk 0 (.seq (.reg [.s (.bin 16 .eql (.t 14) (.k (.v (.c (.int .i64 15))))), .s (.mv 15 (.t 16))]) (.cond (.t 15) (.seq (.reg [.s (.mv 17 (.t 5)), .s (.mv 4 (.t 17))]) (.ret)) (.seq (.reg [.s (.bin 19 .eql (.t 14) (.k (.v (.c (.int .i64 12))))), .s (.mv 18 (.t 19))]) (.cond (.t 18) (.seq (.seq (.reg [.s (.load 20 false 1 (.t 2)), .s (.len 21 false (.t 20)), .s (.mv 22 (.k (.v (.c (.int .i64 0)))))]) (.blk 1 (.loop [5, 21, 22] lb_impl_nextPlaces_0))) (.seq (.reg [.s (.mv 30 (.t 5)), .s (.mv 4 (.t 30))]) (.ret))) (.seq (.reg [.s (.bin 32 .eql (.t 14) (.k (.v (.c (.int .i64 13))))), .s (.mv 31 (.t 32))]) (.cond (.t 31) (.reg [.s (.mv 33 (.t 5)), .s (.mv 34 (.t 1)), .s (.fa 35 (.t 6) 4), .s (.load 36 false 1 (.t 35)), .s (.bin 37 .add (.t 34) (.t 36)), .s (.bs 38 (.int .i64) [(.t 37)]), .s (.app 39 (.int .i64) (.t 33) (.t 38)), .s (.mv 5 (.t 39))]) (.skip))))))))) (.seq (.reg [.s (.mv 40 (.t 5)), .s (.mv 41 (.t 1)), .s (.bin 42 .add (.t 41) (.k (.v (.c (.int .i64 1))))), .s (.bs 43 (.int .i64) [(.t 42)]), .s (.app 44 (.int .i64) (.t 40) (.t 43)), .s (.mv 5 (.t 44))]) (.seq (.reg [.s (.mv 45 (.t 5)), .s (.call (some 46) 110 [(.t 45)])]) (.seq (.reg [.s (.mv 47 (.t 5)), .s (.call (some 48) 112 [(.t 47)]), .s (.mkf 49 113 [(.t 2)]), .s (.call (some 50) 111 [(.t 48), (.t 49)]), .s (.mv 4 (.t 50))]) (.ret)))))))⟩
def c_impl_nextPlaces : Fun := ⟨62, [], fun ts K => as2 ts fun t0 t1 => arC (pL .inst) t0 fun l => arC (pI .i64) t1 fun a => chk (0 ≤ a ∧ a < l.length ∧ l.length ≤ 1000000 ∧ insOk (atI l a) = true) (K (tL true (.int .i64) (nextI l a)) [])⟩
theorem run_impl_nextPlaces (l : List (FT.Ty .inst)) (a : Int) (hpre : 0 ≤ a ∧ a < l.length ∧ l.length ≤ 1000000 ∧ insOk (atI l a) = true) : runK [c_slices_Sort_int, c_slices_DeleteFunc_int__impl_nextPlaces_1, c_slices_Compact_int, c_impl_nextPlaces_1] (l.length + 1) [] pf_impl_nextPlaces [tL false .inst l, tI .i64 a] fun r o => r = tL true (.int .i64) (nextI l a) ∧ o = [] := by
  obtain ⟨h0, h1, h2, h3⟩ := hpre
  have hn := insOk_n h3
  have w1 : IntKind.i64.wrap (a + 1) = a + 1 := wrap_id (by omega) (by omega)
  have w2 : IntKind.i64.wrap (a + (atI l a).n) = a + (atI l a).n := wrap_id (by omega) (by omega)
  have e1 := @next_halt l a
  have e2 := @next_jump l a
  have e3 := @next_zero l a
  have e4 := @next_one l a
  unfold atI at hn w2 e1 e2 e3 e4
  conv => whnf
  repeat' (first | (refine sel_i (fun h => ?_) (fun h => ?_) <;> conv => whnf) | (refine chk_c ?_ ?_ <;> conv => whnf) | (refine And.intro ?_ rfl) | (refine And.intro ?_ ?_ <;> conv => whnf))
  all_goals (simp only [w1, w2, List.nil_append, List.cons_append, beq_iff_eq, beq_eq_false_iff_ne, ne_eq] at *)
  all_goals first
    | (refine ⟨?_⟩; omega)
    | (refine ⟨?_⟩; rw [sortI_len]; done)
    | (refine ⟨?_⟩; rw [sortI_len]; simp only [List.length_cons, List.length_nil]; omega)
    | (refine ⟨?_⟩; refine ⟨Nat.le_trans (setI_len _) ?_, by omega⟩; simp only [List.length_cons, List.length_nil]; omega)
    | (refine ⟨?_⟩; simp only [List.length_cons, List.length_nil]; omega)
    | (rw [e1 (by assumption)]; done)
    | (rw [show compI (sortI _) = setI _ from rfl, e3 (by assumption)]; done)
    | (rw [show compI (sortI _) = setI _ from rfl, e4 (by assumption) (by assumption) (by assumption)]; done)
    | skip
  rw [e2 (by assumption)]
  refine loop (α := Nat) (fun k => ⟨[(5, .v (.c (.sl true (.int .i64) 0))), (21, .v (.c (.int .i64 (l.length : Int)))), (22, .v (.c (.int .i64 (k : Int))))], [(0, some (.flat true (.int .i64) none (rangeI k)))], nums.tail, [], false, []⟩)
    (fun k => k ≤ l.length) (fun k => l.length - k) (fun k R hI hR => ?_) 0 _ (by omega) (by omega)
  have hl := rangeI_len k
  have w3 : IntKind.i64.wrap ((k : Int) + 1) = ((k + 1 : Nat) : Int) := by rw [wrap_id (by omega) (by omega)]; rfl
  clear e1 e2 e3 e4
  conv => whnf
  repeat' (first | (refine sel_i (fun h => ?_) (fun h => ?_) <;> conv => whnf) | (refine chk_c ?_ ?_ <;> conv => whnf) | (refine And.intro ?_ rfl) | (refine And.intro ?_ ?_ <;> conv => whnf))
  all_goals (simp only [w3, decide_eq_true_eq, decide_eq_false_iff_not] at *)
  all_goals first
    | (refine ⟨?_⟩; simp only [List.length_cons, List.length_nil]; omega)
    | (rw [← rangeI_succ]; exact hR (k + 1) (by omega) (by omega))
    | (rw [show k = l.length by omega]; done)
    | trace_state
theorem ok_impl_nextPlaces : FunOk Tryz.prog c_impl_nextPlaces := funOk (E := [c_slices_Sort_int, c_slices_DeleteFunc_int__impl_nextPlaces_1, c_slices_Compact_int, c_impl_nextPlaces_1]) (envOk_cons ok_slices_Sort_int (envOk_cons ok_slices_DeleteFunc_int__impl_nextPlaces_1 (envOk_cons ok_slices_Compact_int (envOk_cons ok_impl_nextPlaces_1 (envOk_nil))))) mixd Tryz.func62 (pf := pf_impl_nextPlaces) (by kernel_rfl) fun ts K h => by
  obtain ⟨t0, t1, e0, h⟩ := as2_out h
  subst e0
  obtain ⟨l, e1, hq⟩ := arC_out (rd_l .inst) h
  clear h
  subst e1
  have h := hq
  clear hq
  obtain ⟨a, e1, hq⟩ := arC_out (rd_int .i64) h
  clear h
  subst e1
  have h := hq
  clear hq
  obtain ⟨hpre, h⟩ := chk_o h
  exact ⟨_, _, h, Nat.le_of_ble_eq_true (show Nat.ble 2 Tryz.f62.ntmps = true by kernel_rfl), _, run_impl_nextPlaces l a hpre⟩

def pf_impl_NextPlaces : PF := ⟨[.t 4], .seq (.reg [.s (.mv 4 (.k (.v (.c (.nils (.int .i64))))))]) (.seq (.seq (.reg [.s (.mv 5 (.t 0)), .s (.call (some 6) 23 [(.t 5)]), .s (.bnot 7 (.t 6)), .s (.mv 8 (.t 7)), .g 8 false (some 9) (.mv 9 (.t 1)), .g 8 false (some 10) (.mv 10 (.t 0)), .g 8 false (some 11) (.len 11 false (.t 10)), .g 8 false (some 12) (.bin 12 .sub (.t 11) (.k (.v (.c (.int .i64 1))))), .g 8 false (some 13) (.call (some 13) 36 [(.t 9), (.k (.v (.c (.int .i64 0)))), (.t 12)]), .g 8 false (some 14) (.bnot 14 (.t 13)), .s (.pick 15 (.t 8) (.k (.v (.c .tt))) (.t 14))]) (.cond (.t 15) (.seq (.reg [.s (.mv 4 (.k (.v (.c (.nils (.int .i64))))))]) (.ret)) (.skip))) (.seq (.reg [.s (.mv 16 (.t 0)), .s (.mv 17 (.t 1)), .s (.call (some 18) 62 [(.t 16), (.t 17)]), .s (.mv 4 (.t 18))]) (.ret)))⟩
def c_impl_NextPlaces : Fun := ⟨28, [], fun ts K => as2 ts fun t0 t1 => arC (pL .inst) t0 fun l => arC (pI .i64) t1 fun a => chk (l.length ≤ 2147483647) (K (tL true (.int .i64) (nextP l a)) [])⟩
theorem run_impl_NextPlaces (l : List (FT.Ty .inst)) (a : Int) (hpre : l.length ≤ 2147483647) : runK [c_impl_CodeOk, c_impl_in, c_impl_nextPlaces] (0) [] pf_impl_NextPlaces [tL false .inst l, tI .i64 a] fun r o => r = tL true (.int .i64) (nextP l a) ∧ o = [] := by
  have w1 : IntKind.i64.wrap ((l.length : Int) - 1) = (l.length : Int) - 1 := wrap_id (by omega) (by omega)
  conv => whnf
  repeat' (first | (refine sel_i (fun h => ?_) (fun h => ?_) <;> conv => whnf) | (refine chk_c ?_ ?_ <;> conv => whnf) | (refine And.intro ?_ rfl) | (refine And.intro ?_ ?_ <;> conv => whnf))
  all_goals (try simp only [w1, Bool.not_eq_true', Bool.not_eq_false'] at *)
  all_goals first
    | (refine ⟨?_⟩; omega)
    | (unfold nextP; simp only [*, Bool.and_true, Bool.and_false, Bool.false_and, Bool.true_and, Bool.false_eq_true, if_true, if_false]; done)
    | (refine ⟨?_⟩; have hc := codeOk_out (by assumption); have hr := inR_t.1 (by assumption); exact ⟨by omega, by omega, by omega, atI_ok hc.2.2 (by omega) (by omega)⟩)
    | trace_state
theorem ok_impl_NextPlaces : FunOk Tryz.prog c_impl_NextPlaces := funOk (E := [c_impl_CodeOk, c_impl_in, c_impl_nextPlaces]) (envOk_cons ok_impl_CodeOk (envOk_cons ok_impl_in (envOk_cons ok_impl_nextPlaces (envOk_nil)))) mixd Tryz.func28 (pf := pf_impl_NextPlaces) (by kernel_rfl) fun ts K h => by
  obtain ⟨t0, t1, e0, h⟩ := as2_out h
  subst e0
  obtain ⟨l, e1, hq⟩ := arC_out (rd_l .inst) h
  clear h
  subst e1
  have h := hq
  clear hq
  obtain ⟨a, e1, hq⟩ := arC_out (rd_int .i64) h
  clear h
  subst e1
  have h := hq
  clear hq
  obtain ⟨hpre, h⟩ := chk_o h
  exact ⟨_, _, h, Nat.le_of_ble_eq_true (show Nat.ble 2 Tryz.f28.ntmps = true by kernel_rfl), _, run_impl_NextPlaces l a hpre⟩

def lb_spec_NextPlaces_0 : PC := .seq (.seq (.reg [.s (.mv 26 (.t 7)), .s (.mv 27 (.t 0)), .s (.len 28 false (.t 27)), .s (.bin 29 .lss (.t 26) (.t 28))]) (.cond (.t 29) (.skip) (.exit 0))) (.seq (.blk 1 (.seq (.reg [.s (.mv 32 (.t 7)), .s (.mv 33 (.t 1)), .s (.bin 34 .add (.t 33) (.k (.v (.c (.int .i64 1))))), .s (.bin 35 .eql (.t 32) (.t 34)), .s (.mv 36 (.t 35)), .g 36 true (some 37) (.fa 37 (.t 6) 0), .g 36 true (some 38) (.load 38 false 1 (.t 37)), .g 36 true (some 39) (.bin 39 .neq (.t 38) (.k (.v (.c (.int .i64 15))))), .s (.pick 40 (.t 36) (.t 39) (.k (.v (.c .ff)))), .s (.mv 8 (.t 40))]) (.seq (.seq (.reg [.s (.fa 41 (.t 6) 0), .s (.load 42 false 1 (.t 41)), .s (.bin 43 .eql (.t 42) (.k (.v (.c (.int .i64 13))))), .s (.mv 44 (.t 43)), .g 44 true (some 45) (.mv 45 (.t 7)), .g 44 true (some 46) (.mv 46 (.t 1)), .g 44 true (some 47) (.fa 47 (.t 6) 4), .g 44 true (some 48) (.load 48 false 1 (.t 47)), .g 44 true (some 49) (.bin 49 .add (.t 46) (.t 48)), .g 44 true (some 50) (.bin 50 .eql (.t 45) (.t 49)), .s (.pick 51 (.t 44) (.t 50) (.k (.v (.c .ff)))), .s (.mv 52 (.t 51)), .g 52 false (some 53) (.fa 53 (.t 6) 0), .g 52 false (some 54) (.load 54 false 1 (.t 53)), .g 52 false (some 55) (.bin 55 .eql (.t 54) (.k (.v (.c (.int .i64 12))))), .s (.pick 56 (.t 52) (.k (.v (.c .tt))) (.t 55))]) (.cond (.t 56) (.reg [.s (.mv 8 (.k (.v (.c .tt))))]) (.skip))) (.seq (.reg [.s (.mv 57 (.t 8))]) (.cond (.t 57) (.reg [.s (.mv 58 (.t 5)), .s (.mv 59 (.t 7)), .s (.bs 60 (.int .i64) [(.t 59)]), .s (.app 61 (.int .i64) (.t 58) (.t 60)), .s (.mv 5 (.t 61))]) (.skip)))))) (.reg [.s (.mv 30 (.t 7)), .s (.bin 31 .add (.t 30) (.k (.v (.c (.int .i64 1))))), .s (.mv 7 (.t 31))]))
def pf_spec_NextPlaces : PF := ⟨[.t 4], .seq (.reg [.s (.mv 4 (.k (.v (.c (.nils (.int .i64))))))]) (.seq (.reg [.s (.bs 9 (.int .i64) []), .s (.mv 5 (.t 9))]) (.seq (.seq (.reg [.s (.mv 10 (.t 0)), .s (.call (some 11) 52 [(.t 10)]), .s (.bnot 12 (.t 11)), .s (.mv 13 (.t 12)), .g 13 false (some 14) (.mv 14 (.t 1)), .g 13 false (some 15) (.mv 15 (.t 0)), .g 13 false (some 16) (.len 16 false (.t 15)), .g 13 false (some 17) (.bin 17 .sub (.t 16) (.k (.v (.c (.int .i64 1))))), .g 13 false (some 18) (.call (some 18) 42 [(.t 14), (.k (.v (.c (.int .i64 0)))), (.t 17)]), .g 13 false (some 19) (.bnot 19 (.t 18)), .s (.pick 20 (.t 13) (.k (.v (.c .tt))) (.t 19))]) (.cond (.t 20) (.seq (.reg [.s (.mv 21 (.t 5)), .s (.mv 4 (.t 21))]) (.ret)) (.skip))) (.seq (.reg [.s (.mv 22 (.t 0)), .s (.mv 23 (.t 1)), .s (.ia 24 .inst (.t 22) (.t 23)), .s (.load 25 true 5 (.t 24)), .s (.alloc 6 [.int .i64 0, .int .i64 0, .int .i64 0, .int .i64 0, .int .i64 0]), .s (.store 5 (.t 6) (.t 25))]) (.seq (.seq (.reg [.s (.mv 7 (.k (.v (.c (.int .i64 0)))))]) (.blk 0 (.loop [0, 1, 5, 6, 7] lb_spec_NextPlaces_0))) (.seq (.reg [.s (.mv 62 (.t 5)), .s (.mv 4 (.t 62))]) (.ret))))))⟩
def c_spec_NextPlaces : Fun := ⟨29, [], fun ts K => as2 ts fun t0 t1 => arC (pL .inst) t0 fun l => arC (pI .i64) t1 fun a => chk (l.length ≤ 2147483647) (K (tL true (.int .i64) (nextP l a)) [])⟩
theorem run_spec_NextPlaces (l : List (FT.Ty .inst)) (a : Int) (hpre : l.length ≤ 2147483647) : runK [c_spec_l1In, c_spec_CodeOk] (l.length + 1) [] pf_spec_NextPlaces [tL false .inst l, tI .i64 a] fun r o => r = tL true (.int .i64) (nextP l a) ∧ o = [] := by
  have w1 : IntKind.i64.wrap ((l.length : Int) - 1) = (l.length : Int) - 1 := wrap_id (by omega) (by omega)
  conv => whnf
  repeat' (first | (refine sel_i (fun h => ?_) (fun h => ?_) <;> conv => whnf) | (refine chk_c ?_ ?_ <;> conv => whnf) | (refine And.intro ?_ rfl) | (refine And.intro ?_ ?_ <;> conv => whnf))
  all_goals (try simp only [w1, Bool.not_eq_true', Bool.not_eq_false'] at *)
  all_goals first
    | (refine ⟨?_⟩; omega)
    | (unfold nextP; simp only [*, Bool.and_true, Bool.and_false, Bool.false_and, Bool.true_and, Bool.false_eq_true, if_true, if_false]; done)
    | (refine ⟨?_⟩; have hr := inR_t.1 (by assumption); omega)
    | skip
  have hc := codeOk_out (by assumption)
  have hr := inR_t.1 (by assumption)
  have hn := insOk_n (atI_ok hc.2.2 (a := a) (by omega) (by omega))
  have e : nextP l a = (rangeI l.length).filter (goesB (atI l a) a) := by
    unfold nextP; simp only [*, Bool.and_true, if_true]; rfl
  rw [e]
  rw [show l.getD a.toNat FT.inst.zero = atI l a from rfl]
  generalize atI l a = x at hn ⊢
  have w2 : IntKind.i64.wrap (a + 1) = a + 1 := wrap_id (by omega) (by omega)
  have w3 : IntKind.i64.wrap (a + x.n) = a + x.n := wrap_id (by omega) (by omega)
  refine loop (α := Nat) (fun k => ⟨[(0, .v (.c (.sl false .inst 0))), (1, .v (.c (.int .i64 a))), (5, .v (.c (.sl true (.int .i64) 1))), (6, .v (.c (.ptr 2 0))), (7, .v (.c (.int .i64 (k : Int))))],
      [(2, some (.box true [.int .i64 x.op, .int .i64 x.r, .int .i64 x.a, .int .i64 x.b, .int .i64 x.n])), (1, some (.flat true (.int .i64) none ((rangeI k).filter (goesB x a)))), (0, some (.flat false .inst none l))], nums.tail.tail.tail, [], false, []⟩)
    (fun k => k ≤ l.length) (fun k => l.length - k) (fun k R hI hR => ?_) 0 _ (by omega) (by omega)
  have hl := List.length_filter_le (goesB x a) (rangeI k)
  rw [rangeI_len] at hl
  have w4 : IntKind.i64.wrap ((k : Int) + 1) = ((k + 1 : Nat) : Int) := by rw [wrap_id (by omega) (by omega)]; rfl
  have gt : goesB x a k = true → (rangeI (k + 1)).filter (goesB x a) = (rangeI k).filter (goesB x a) ++ [(k : Int)] := fun h => by
    rw [rangeI_succ, List.filter_append]; simp [h]
  have gf : goesB x a k = false → (rangeI (k + 1)).filter (goesB x a) = (rangeI k).filter (goesB x a) := fun h => by
    rw [rangeI_succ, List.filter_append]; simp [h]
  have hR := hR (k + 1)
  generalize (rangeI (k + 1)).filter (goesB x a) = Y at *
  have hend : l.length ≤ k → (rangeI l.length).filter (goesB x a) = (rangeI k).filter (goesB x a) := fun h => by rw [show k = l.length by omega]
  generalize (rangeI k).filter (goesB x a) = X at *
  have hg : goesB x a k = (((k : Int) == a + 1 && x.op != 15) || (x.op == 13 && (k : Int) == a + x.n) || x.op == 12) := rfl
  generalize goesB x a k = gg at *
  conv => whnf
  repeat' (first | (refine sel_i (fun h => ?_) (fun h => ?_) <;> conv => whnf) | (refine chk_c ?_ ?_ <;> conv => whnf) | (refine And.intro ?_ rfl) | (refine And.intro ?_ ?_ <;> conv => whnf))
  all_goals (simp only [w2, w3, w4] at *)
  all_goals first
    | (refine ⟨?_⟩; simp only [List.length_cons, List.length_nil]; omega)
    | (rw [hend (by have := of_decide_eq_false (show decide ((k : Int) < (l.length : Int)) = false by assumption); omega)]; done)
    | (have q : gg = true := (by rw [hg]; simp only [*, Bool.and_true, Bool.true_and, Bool.and_false, Bool.false_and, Bool.or_true, Bool.true_or, Bool.or_false, Bool.false_or]; done)
       rw [gt q] at hR; have ql := of_decide_eq_true (show decide ((k : Int) < (l.length : Int)) = true by assumption)
       exact hR (by omega) (by omega))
    | (have q : gg = false := (by rw [hg]; simp only [*, Bool.and_true, Bool.true_and, Bool.and_false, Bool.false_and, Bool.or_true, Bool.true_or, Bool.or_false, Bool.false_or]; done)
       rw [gf q] at hR; have ql := of_decide_eq_true (show decide ((k : Int) < (l.length : Int)) = true by assumption)
       exact hR (by omega) (by omega))
    | trace_state
theorem ok_spec_NextPlaces : FunOk Tryz.prog c_spec_NextPlaces := funOk (E := [c_spec_l1In, c_spec_CodeOk]) (envOk_cons ok_spec_l1In (envOk_cons ok_spec_CodeOk (envOk_nil))) mixd Tryz.func29 (pf := pf_spec_NextPlaces) (by kernel_rfl) fun ts K h => by
  obtain ⟨t0, t1, e0, h⟩ := as2_out h
  subst e0
  obtain ⟨l, e1, hq⟩ := arC_out (rd_l .inst) h
  clear h
  subst e1
  have h := hq
  clear hq
  obtain ⟨a, e1, hq⟩ := arC_out (rd_int .i64) h
  clear h
  subst e1
  have h := hq
  clear hq
  obtain ⟨hpre, h⟩ := chk_o h
  exact ⟨_, _, h, Nat.le_of_ble_eq_true (show Nat.ble 2 Tryz.f29.ntmps = true by kernel_rfl), _, run_spec_NextPlaces l a hpre⟩

/-! what was touched -/
def addrS (l : List Seen) : List Int := (l.filter (fun x => decide (0 ≤ x.addr))).map (fun x => x.addr)
def touched (l : List Seen) : List Int := setI (addrS l)

/-! the core: what it is made of -/
def LCore (c : Core) (n : Nat) : Prop := LState c.s n ∧ c.rob.length ≤ n ∧ c.guesses.length ≤ n





def Fit (c : Core) : Prop := LenOk c.s ∧ c.rob.length ≤ 7 ∧ c.guesses.length = 48
theorem Fit.l {c : Core} (h : Fit c) : LCore c 2147483647 := by
  obtain ⟨h1, h2, h3⟩ := h
  exact ⟨h1.l, by omega, by omega⟩



/-! costs grow -/

/-! a core that is right stays so -/
theorem insOk_r {x : Inst} (h : insOk x = true) : 0 ≤ x.r ∧ x.r ≤ 7 := by
  simp only [insOk, Bool.and_eq_true] at h
  exact fld_in h.1.1.1.1.2


def Sm (x : Seen) : Prop := (-1 ≤ x.at_ ∧ x.at_ ≤ 10) ∧ (-1 ≤ x.r ∧ x.r ≤ 10) ∧ (-1 ≤ x.addr ∧ x.addr ≤ 10)
theorem Sm.inS {x : Seen} (h : Sm x) : InS x := by
  obtain ⟨h1, h2, h3⟩ := h
  exact ⟨⟨by omega, by omega⟩, ⟨by omega, by omega⟩, ⟨by omega, by omega⟩⟩

/-! a core is settled -/

/-! out of order comes to what in order comes to -/
theorem putE_cell {s : State} {e : Eff} {c : Nat} (h : ¬ e.addr = (c : Int)) : (putE s e).mem.words.getD c (FT.zero .word) = s.mem.words.getD c (FT.zero .word) := by
  unfold putE
  dsimp only
  split
  · rename_i hr
    have hr := inR_t.1 hr
    rw [List.getD_eq_getElem?_getD, List.getD_eq_getElem?_getD, List.getElem?_set_ne (by omega)]
  · rfl
theorem opCases {x : Inst} (h : insOk x = true) : x.op = 1 ∨ x.op = 2 ∨ x.op = 3 ∨ x.op = 4 ∨ x.op = 5 ∨ x.op = 6 ∨ x.op = 7 ∨ x.op = 8 ∨ x.op = 9 ∨ x.op = 10 ∨ x.op = 11 ∨ x.op = 12 ∨ x.op = 13 ∨ x.op = 14 ∨ x.op = 15 := by
  simp only [insOk, Bool.and_eq_true, inR_t] at h
  omega
theorem setsI_has (x : Inst) : setsI x = if hasC x.op 82 then x.r else -1 := by
  rw [hasR]; unfold setsI
  by_cases h : andI (maskI x.op) 1 = 0 <;> simp [h]
theorem workE_r {x : Inst} {pc a b got : Word} (h : (workE x pc a b got).trap = 0) : (workE x pc a b got).r = setsI x := by
  rw [setsI_has]
  unfold workE at h ⊢
  by_cases h11 : x.op = 11
  · rw [if_pos h11, if_neg (by rw [h11]; decide)]
  rw [if_neg h11] at h ⊢
  by_cases h12 : x.op = 12
  · rw [if_pos h12] at h ⊢
    by_cases q : tryW a a.n 4 ≠ 0
    · rw [if_pos q] at h; exact absurd h q
    · rw [if_neg q, if_pos (by rw [h12]; decide)]
  rw [if_neg h12] at h ⊢
  by_cases h13 : x.op = 13
  · rw [if_pos h13]; show (-1 : Int) = _; rw [if_neg (by rw [h13]; decide)]
  rw [if_neg h13] at h ⊢
  by_cases h14 : x.op = 14
  · rw [if_pos h14] at h ⊢
    by_cases q : tryW a a.n 32 ≠ 0
    · rw [if_pos q] at h; exact absurd h q
    · rw [if_neg q, if_neg (by rw [h14]; decide)]
  rw [if_neg h14] at h ⊢
  by_cases h15 : x.op = 15
  · rw [if_pos h15] at h; exact absurd h (by show ¬ (5 : Int) = 0; decide)
  rw [if_neg h15] at h ⊢
  by_cases hr : hasC x.op 82 = true
  · rw [if_pos hr, if_pos hr]
  · rw [if_neg hr, if_neg hr]
theorem putE_reg {s : State} {e : Eff} {r : Int} (hs : s.regs.length = 8) (h0 : 0 ≤ r) (h1 : r ≤ 7) : (putE s e).regs.getD r.toNat (FT.zero .word) = if e.r = r then e.val else s.regs.getD r.toNat (FT.zero .word) := by
  unfold putE
  dsimp only
  split
  · rename_i hr
    have hr := inR_t.1 hr
    rw [getD_set _ _ _ _ _ (by omega)]
    by_cases q : e.r = r
    · rw [if_pos (by omega), if_pos q]
    · rw [if_neg (by omega), if_neg q]
  · rename_i hr
    rw [if_neg]
    intro q
    exact hr (inR_t.2 (by omega))
theorem len_of {s : State} (h : stateOk s = true) : s.regs.length = 8 ∧ s.mem.words.length = 24 ∧ s.mem.gone.length = 24 := stateOk_len h
theorem insOk_ab {x : Inst} (h : insOk x = true) : (0 ≤ x.a ∧ x.a ≤ 7) ∧ (0 ≤ x.b ∧ x.b ≤ 7) := by
  simp only [insOk, Bool.and_eq_true, fld, inR_t] at h
  omega




/-! which registers may hold a key: what is known of the places of a program -/
def behindB (x : Inst) (may : List Bool) : List Bool :=
  if x.op = 1 ∨ x.op = 2 ∨ x.op = 9 then may.set x.r.toNat false else if x.op = 10 ∨ x.op = 12 then may.set x.r.toNat true else
  if x.op = 3 ∨ x.op = 4 ∨ x.op = 5 ∨ x.op = 6 ∨ x.op = 7 ∨ x.op = 8 then may.set x.r.toNat (may.getD x.a.toNat (FT.zero .bool)) else may
theorem behindB_len (x : Inst) (may : List Bool) : (behindB x may).length = may.length := by
  unfold behindB
  repeat' split
  all_goals first | rfl | exact List.length_set ..
structure Flow where
  come : List Bool
  may : List (List Bool)
def Flow.tc (f : Flow) (r : List TC) : List TC := .ow .bool f.come :: .rows true .bool f.may :: r
def pV (τ : FT) : Prs (List (List τ.Ty)) := fun l f => match l with | .rows true σ xs :: r => castR σ τ xs fun ys => f ys r | _ => False
theorem rd_v (τ : FT) : Rd (pV τ) (fun x r => .rows true τ x :: r) := fun l f h => by
  unfold pV at h
  split at h
  · obtain ⟨e, h1⟩ := castR_out h
    subst e
    exact ⟨_, _, rfl, h1⟩
  · exact h.elim
def pFlowO : Prs Flow := fun l f => pO .bool l fun a l => pV .bool l fun b l => f ⟨a, b⟩ l
theorem rd_flow : Rd pFlowO Flow.tc := fun l f h0 => by
  obtain ⟨a, _, rfl, h1⟩ := rd_o .bool _ _ h0
  obtain ⟨b, _, rfl, h2⟩ := rd_v .bool _ _ h1
  exact ⟨⟨a, b⟩, _, rfl, h2⟩
abbrev fB : Bool := FT.zero .bool
def orTo (x y : List Bool) : Nat → List Bool
  | 0 => x
  | k + 1 => (orTo x y k).set k (x.getD k fB || y.getD k fB)
def newTo (x y : List Bool) : Nat → Bool
  | 0 => false
  | k + 1 => newTo x y k || (y.getD k fB && !x.getD k fB)
theorem orTo_len (x y : List Bool) : ∀ k, (orTo x y k).length = x.length
  | 0 => rfl
  | k + 1 => by unfold orTo; rw [List.length_set]; exact orTo_len x y k
theorem orTo_get (x y : List Bool) : ∀ k j, (orTo x y k).getD j fB = if j < k ∧ j < x.length then x.getD j fB || y.getD j fB else x.getD j fB
  | 0, j => by rw [if_neg (by omega)]; rfl
  | k + 1, j => by
    unfold orTo
    rw [getD_set2, orTo_len, orTo_get x y k j]
    by_cases h : k = j ∧ j < x.length
    · rw [if_pos h, if_pos (by omega), h.1]
    · rw [if_neg h]
      by_cases h2 : j < k ∧ j < x.length
      · rw [if_pos h2, if_pos (by omega)]
      · rw [if_neg h2, if_neg (by omega)]
theorem orTo_at {x y : List Bool} {k : Nat} : (orTo x y k).getD k fB = x.getD k fB := by rw [orTo_get, if_neg (by omega)]
theorem set_same {xs : List Bool} {k : Nat} {b : Bool} (h : k < xs.length → xs.getD k fB = b) : xs.set k b = xs := by
  rcases Nat.lt_or_ge k xs.length with q | q
  · have h := h q
    apply List.ext_getElem?
    intro j
    rw [List.getElem?_set]
    split
    · rename_i e; subst e
      have hb : b = xs[k] := by rw [← h, List.getD_eq_getElem?_getD, List.getElem?_eq_getElem q]; rfl
      rw [hb, List.getElem?_eq_getElem q]
      try rw [if_pos q]
    · rfl
  · exact List.set_eq_of_length_le q
theorem orTo_yes {x y : List Bool} {k : Nat} (h : y.getD k fB = true) : orTo x y (k + 1) = (orTo x y k).set k true := by
  show (orTo x y k).set k (x.getD k fB || y.getD k fB) = _
  rw [h, Bool.or_true]
theorem orTo_no {x y : List Bool} {k : Nat} (h : y.getD k fB = false ∨ x.getD k fB = true) : orTo x y (k + 1) = orTo x y k := by
  show (orTo x y k).set k (x.getD k fB || y.getD k fB) = _
  refine set_same fun _ => ?_
  rw [orTo_at]
  rcases h with h | h
  · rw [h, Bool.or_false]
  · rw [h, Bool.true_or]
def comeM (f : Flow) (a : Nat) (y : List Bool) : Flow := ⟨f.come.set a true, f.may.set a (orTo (f.may.getD a []) y 8)⟩
def freshM (f : Flow) (a : Nat) (y : List Bool) : Bool := !(f.come.getD a fB) || newTo (f.may.getD a []) y 8
def FlowOk (f : Flow) (n : Nat) : Prop := f.come.length = n ∧ f.may.length = n ∧ ∀ i, i < n → (f.may.getD i []).length = 8
theorem comeM_ok {f : Flow} {n a : Nat} {y : List Bool} (h : FlowOk f n) : FlowOk (comeM f a y) n := by
  obtain ⟨h1, h2, h3⟩ := h
  refine ⟨by unfold comeM; simpa using h1, by unfold comeM; simpa using h2, fun i hi => ?_⟩
  unfold comeM
  dsimp only
  rw [getD_set2]
  split
  · rename_i e; rw [orTo_len, e.1]; exact h3 i hi
  · exact h3 i hi

def pf_impl_behind : PF := ⟨[.t 4], .seq (.reg [.s (.box 2 (.t 0)), .s (.mv 4 (.k (.v (.c (.nils .bool)))))]) (.seq (.reg [.s (.mv 6 (.t 1)), .s (.call (some 7) 131 [(.t 6)]), .s (.mv 5 (.t 7))]) (.seq (.seq (.reg [.s (.fa 8 (.t 2) 0), .s (.load 9 false 1 (.t 8))]) (.blk 0 (.seq (.seq (.reg [.s (.bin 11 .eql (.t 9) (.k (.v (.c (.int .i64 1))))), .s (.mv 10 (.t 11))]) (.cond (.t 10) (.skip) (.seq (.reg [.s (.bin 12 .eql (.t 9) (.k (.v (.c (.int .i64 2))))), .s (.mv 10 (.t 12))]) (.cond (.t 10) (.skip) (.reg [.s (.bin 13 .eql (.t 9) (.k (.v (.c (.int .i64 9))))), .s (.mv 10 (.t 13))]))))) (.cond (.t 10) (.reg [.s (.mv 14 (.t 5)), .s (.fa 15 (.t 2) 1), .s (.load 16 false 1 (.t 15)), .s (.ia 17 .bool (.t 14) (.t 16)), .s (.store 1 (.t 17) (.k (.v (.c .ff))))]) (.seq (.seq (.reg [.s (.bin 19 .eql (.t 9) (.k (.v (.c (.int .i64 10))))), .s (.mv 18 (.t 19))]) (.cond (.t 18) (.skip) (.reg [.s (.bin 20 .eql (.t 9) (.k (.v (.c (.int .i64 12))))), .s (.mv 18 (.t 20))]))) (.cond (.t 18) (.reg [.s (.mv 21 (.t 5)), .s (.fa 22 (.t 2) 1), .s (.load 23 false 1 (.t 22)), .s (.ia 24 .bool (.t 21) (.t 23)), .s (.store 1 (.t 24) (.k (.v (.c .tt))))]) (.seq (.seq (.reg [.s (.bin 26 .eql (.t 9) (.k (.v (.c (.int .i64 3))))), .s (.mv 25 (.t 26))]) (.cond (.t 25) (.skip) (.seq (.reg [.s (.bin 27 .eql (.t 9) (.k (.v (.c (.int .i64 4))))), .s (.mv 25 (.t 27))]) (.cond (.t 25) (.skip) (.seq (.reg [.s (.bin 28 .eql (.t 9) (.k (.v (.c (.int .i64 5))))), .s (.mv 25 (.t 28))]) (.cond (.t 25) (.skip) (.seq (.reg [.s (.bin 29 .eql (.t 9) (.k (.v (.c (.int .i64 6))))), .s (.mv 25 (.t 29))]) (.cond (.t 25) (.skip) (.seq (.reg [.s (.bin 30 .eql (.t 9) (.k (.v (.c (.int .i64 7))))), .s (.mv 25 (.t 30))]) (.cond (.t 25) (.skip) (.reg [.s (.bin 31 .eql (.t 9) (.k (.v (.c (.int .i64 8))))), .s (.mv 25 (.t 31))]))))))))))) (.cond (.t 25) (.rgd [] [.s (.mv 32 (.t 5)), .s (.fa 33 (.t 2) 1), .s (.load 34 false 1 (.t 33)), .s (.mv 35 (.t 1)), .s (.fa 36 (.t 2) 2), .s (.load 37 false 1 (.t 36)), .s (.ia 38 .bool (.t 35) (.t 37)), .s (.load 39 false 1 (.t 38)), .s (.ia 40 .bool (.t 32) (.t 34)), .s (.store 1 (.t 40) (.t 39))] (.tk 0 (.tk 1 (.tk 2 (.tk 3 (.tk 4 (.tk 5 (.tk 6 (.tk 7 (.tk 8 (.one 9 true (.done none)))))))))))) (.skip))))))))) (.seq (.reg [.s (.mv 41 (.t 5)), .s (.mv 4 (.t 41))]) (.ret))))⟩
def c_impl_behind : Fun := ⟨94, [], fun ts K => as2 ts fun t0 t1 => arG pInstT t0 fun x => arC (pL .bool) t1 fun may => chk (insOk x = true ∧ may.length = 8) (K (tL true .bool (behindB x may)) [])⟩
theorem run_impl_behind (x : Inst) (may : List (FT.Ty .bool)) (hpre : insOk x = true ∧ may.length = 8) : runK [c_slices_Clone_bool] (0) [] pf_impl_behind [tG (x.tc []), tL false .bool may] fun r o => r = tL true .bool (behindB x may) ∧ o = [] := by
  obtain ⟨hx, hl⟩ := hpre
  have hr := insOk_r hx
  have hab := insOk_ab hx
  conv => whnf
  repeat' (first | (refine sel_i (fun h => ?_) (fun h => ?_) <;> conv => whnf) | (refine chk_c ?_ ?_ <;> conv => whnf) | (refine And.intro ?_ rfl) | (refine And.intro ?_ ?_ <;> conv => whnf))
  all_goals (try simp only [etaInst, beq_iff_eq, beq_eq_false_iff_ne, ne_eq] at *)
  all_goals first
    | (exfalso; omega)
    | (refine ⟨?_⟩; omega)
    | (unfold behindB; rw [if_pos (by omega)]; done)
    | (unfold behindB; rw [if_neg (by omega), if_pos (by omega)]; done)
    | (unfold behindB; rw [if_neg (by omega), if_neg (by omega), if_pos (by omega)]; done)
    | (unfold behindB; rw [if_neg (by omega), if_neg (by omega), if_neg (by omega)]; done)
    | trace_state
theorem ok_impl_behind : FunOk Tryz.prog c_impl_behind := funOk (E := [c_slices_Clone_bool]) (envOk_cons ok_slices_Clone_bool (envOk_nil)) mixd Tryz.func94 (pf := pf_impl_behind) (by kernel_rfl) fun ts K h => by
  obtain ⟨t0, t1, e0, h⟩ := as2_out h
  subst e0
  obtain ⟨x, e1, hq⟩ := arG_out rd_inst h
  clear h
  subst e1
  have h := hq
  clear hq
  obtain ⟨may, e1, hq⟩ := arC_out (rd_l .bool) h
  clear h
  subst e1
  have h := hq
  clear hq
  obtain ⟨hpre, h⟩ := chk_o h
  exact ⟨_, _, h, Nat.le_of_ble_eq_true (show Nat.ble 2 Tryz.f94.ntmps = true by kernel_rfl), _, run_impl_behind x may hpre⟩

def pf_spec_l25Behind : PF := ⟨[.t 4], .seq (.reg [.s (.box 2 (.t 0)), .s (.mv 4 (.k (.v (.c (.nils .bool)))))]) (.seq (.reg [.s (.bs 6 .bool []), .s (.mv 7 (.t 1)), .s (.app 8 .bool (.t 6) (.t 7)), .s (.mv 5 (.t 8))]) (.seq (.seq (.reg [.s (.fa 9 (.t 2) 0), .s (.load 10 false 1 (.t 9))]) (.blk 0 (.seq (.seq (.reg [.s (.bin 12 .eql (.t 10) (.k (.v (.c (.int .i64 1))))), .s (.mv 11 (.t 12))]) (.cond (.t 11) (.skip) (.seq (.reg [.s (.bin 13 .eql (.t 10) (.k (.v (.c (.int .i64 2))))), .s (.mv 11 (.t 13))]) (.cond (.t 11) (.skip) (.reg [.s (.bin 14 .eql (.t 10) (.k (.v (.c (.int .i64 9))))), .s (.mv 11 (.t 14))]))))) (.cond (.t 11) (.reg [.s (.mv 15 (.t 5)), .s (.fa 16 (.t 2) 1), .s (.load 17 false 1 (.t 16)), .s (.ia 18 .bool (.t 15) (.t 17)), .s (.store 1 (.t 18) (.k (.v (.c .ff))))]) (.seq (.seq (.reg [.s (.bin 20 .eql (.t 10) (.k (.v (.c (.int .i64 10))))), .s (.mv 19 (.t 20))]) (.cond (.t 19) (.skip) (.reg [.s (.bin 21 .eql (.t 10) (.k (.v (.c (.int .i64 12))))), .s (.mv 19 (.t 21))]))) (.cond (.t 19) (.reg [.s (.mv 22 (.t 5)), .s (.fa 23 (.t 2) 1), .s (.load 24 false 1 (.t 23)), .s (.ia 25 .bool (.t 22) (.t 24)), .s (.store 1 (.t 25) (.k (.v (.c .tt))))]) (.seq (.seq (.reg [.s (.bin 27 .eql (.t 10) (.k (.v (.c (.int .i64 3))))), .s (.mv 26 (.t 27))]) (.cond (.t 26) (.skip) (.seq (.reg [.s (.bin 28 .eql (.t 10) (.k (.v (.c (.int .i64 4))))), .s (.mv 26 (.t 28))]) (.cond (.t 26) (.skip) (.seq (.reg [.s (.bin 29 .eql (.t 10) (.k (.v (.c (.int .i64 5))))), .s (.mv 26 (.t 29))]) (.cond (.t 26) (.skip) (.seq (.reg [.s (.bin 30 .eql (.t 10) (.k (.v (.c (.int .i64 6))))), .s (.mv 26 (.t 30))]) (.cond (.t 26) (.skip) (.seq (.reg [.s (.bin 31 .eql (.t 10) (.k (.v (.c (.int .i64 7))))), .s (.mv 26 (.t 31))]) (.cond (.t 26) (.skip) (.reg [.s (.bin 32 .eql (.t 10) (.k (.v (.c (.int .i64 8))))), .s (.mv 26 (.t 32))]))))))))))) (.cond (.t 26) (.rgd [] [.s (.mv 33 (.t 5)), .s (.fa 34 (.t 2) 1), .s (.load 35 false 1 (.t 34)), .s (.mv 36 (.t 1)), .s (.fa 37 (.t 2) 2), .s (.load 38 false 1 (.t 37)), .s (.ia 39 .bool (.t 36) (.t 38)), .s (.load 40 false 1 (.t 39)), .s (.ia 41 .bool (.t 33) (.t 35)), .s (.store 1 (.t 41) (.t 40))] (.tk 0 (.tk 1 (.tk 2 (.tk 3 (.tk 4 (.tk 5 (.tk 6 (.tk 7 (.tk 8 (.one 9 true (.done none)))))))))))) (.skip))))))))) (.seq (.reg [.s (.mv 42 (.t 5)), .s (.mv 4 (.t 42))]) (.ret))))⟩
def c_spec_l25Behind : Fun := ⟨96, [], fun ts K => as2 ts fun t0 t1 => arG pInstT t0 fun x => arC (pL .bool) t1 fun may => chk (insOk x = true ∧ may.length = 8) (K (tL true .bool (behindB x may)) [])⟩
theorem run_spec_l25Behind (x : Inst) (may : List (FT.Ty .bool)) (hpre : insOk x = true ∧ may.length = 8) : runK [] (0) [] pf_spec_l25Behind [tG (x.tc []), tL false .bool may] fun r o => r = tL true .bool (behindB x may) ∧ o = [] := by
  obtain ⟨hx, hl⟩ := hpre
  have hr := insOk_r hx
  have hab := insOk_ab hx
  conv => whnf
  repeat' (first | (refine sel_i (fun h => ?_) (fun h => ?_) <;> conv => whnf) | (refine chk_c ?_ ?_ <;> conv => whnf) | (refine And.intro ?_ rfl) | (refine And.intro ?_ ?_ <;> conv => whnf))
  all_goals (try simp only [List.nil_append, etaInst, beq_iff_eq, beq_eq_false_iff_ne, ne_eq] at *)
  all_goals first
    | (exfalso; omega)
    | (refine ⟨?_⟩; omega)
    | (refine ⟨?_⟩; simp only [List.length_nil]; omega)
    | (unfold behindB; rw [if_pos (by omega)]; done)
    | (unfold behindB; rw [if_neg (by omega), if_pos (by omega)]; done)
    | (unfold behindB; rw [if_neg (by omega), if_neg (by omega), if_pos (by omega)]; done)
    | (unfold behindB; rw [if_neg (by omega), if_neg (by omega), if_neg (by omega)]; done)
    | trace_state
theorem ok_spec_l25Behind : FunOk Tryz.prog c_spec_l25Behind := funOk (E := []) (envOk_nil) mixd Tryz.func96 (pf := pf_spec_l25Behind) (by kernel_rfl) fun ts K h => by
  obtain ⟨t0, t1, e0, h⟩ := as2_out h
  subst e0
  obtain ⟨x, e1, hq⟩ := arG_out rd_inst h
  clear h
  subst e1
  have h := hq
  clear hq
  obtain ⟨may, e1, hq⟩ := arC_out (rd_l .bool) h
  clear h
  subst e1
  have h := hq
  clear hq
  obtain ⟨hpre, h⟩ := chk_o h
  exact ⟨_, _, h, Nat.le_of_ble_eq_true (show Nat.ble 2 Tryz.f96.ntmps = true by kernel_rfl), _, run_spec_l25Behind x may hpre⟩

theorem setR_same (m : List (List Bool)) (k : Nat) : m.set k (m.getD k []) = m := by
  apply List.ext_getElem?
  intro j
  rw [List.getElem?_set]
  split
  · rename_i e; subst e
    split
    · rename_i q; rw [List.getD_eq_getElem?_getD, List.getElem?_eq_getElem q]; rfl
    · rename_i q; rw [List.getElem?_eq_none (by omega)]
  · rfl
theorem getR_set {m : List (List Bool)} {k : Nat} {z : List Bool} (h : k < m.length) : (m.set k z).getD k [] = z := by rw [getD_set2, if_pos ⟨rfl, h⟩]

def lb_impl_flow_comeTo_0 : PC := .seq (.reg [.s (.bin 27 .lss (.t 26) (.t 25))]) (.seq (.cond (.t 27) (.skip) (.exit 0)) (.seq (.blk 1 (.seq (.reg [.s (.mv 28 (.t 26)), .s (.ia 29 .bool (.t 24) (.t 26)), .s (.load 30 false 1 (.t 29)), .s (.mv 8 (.t 28)), .s (.mv 9 (.t 30))]) (.seq (.reg [.s (.mv 31 (.t 9)), .s (.mv 32 (.t 31)), .g 32 true (some 33) (.mv 33 (.t 0)), .g 32 true (some 34) (.nchk 34 (.t 33)), .g 32 true (some 35) (.fa 35 (.t 34) 1), .g 32 true (some 36) (.load 36 false 1 (.t 35)), .g 32 true (some 37) (.mv 37 (.t 1)), .g 32 true (some 38) (.ia 38 .str (.t 36) (.t 37)), .g 32 true (some 39) (.load 39 false 1 (.t 38)), .g 32 true (some 40) (.mv 40 (.t 8)), .g 32 true (some 41) (.ia 41 .bool (.t 39) (.t 40)), .g 32 true (some 42) (.load 42 false 1 (.t 41)), .g 32 true (some 43) (.bnot 43 (.t 42)), .s (.pick 44 (.t 32) (.t 43) (.k (.v (.c .ff))))]) (.cond (.t 44) (.seq (.reg [.s (.mv 45 (.t 0)), .s (.nchk 46 (.t 45)), .s (.fa 47 (.t 46) 1), .s (.load 48 false 1 (.t 47)), .s (.mv 49 (.t 1)), .s (.ia 50 .str (.t 48) (.t 49)), .s (.load 51 false 1 (.t 50)), .s (.mv 52 (.t 8)), .s (.ia 53 .bool (.t 51) (.t 52)), .s (.store 1 (.t 53) (.k (.v (.c .tt))))]) (.reg [.s (.mv 7 (.k (.v (.c .tt))))])) (.skip))))) (.reg [.s (.bin 54 .add (.t 26) (.k (.v (.c (.int .i64 1))))), .s (.mv 26 (.t 54))])))
def pf_impl_flow_comeTo : PF := ⟨[.t 6], .seq (.reg [.s (.mv 6 (.k (.v (.c .ff))))]) (.seq (.reg [.s (.mv 10 (.t 0)), .s (.nchk 11 (.t 10)), .s (.fa 12 (.t 11) 0), .s (.load 13 false 1 (.t 12)), .s (.mv 14 (.t 1)), .s (.ia 15 .bool (.t 13) (.t 14)), .s (.load 16 false 1 (.t 15)), .s (.bnot 17 (.t 16)), .s (.mv 7 (.t 17))]) (.seq (.reg [.s (.mv 18 (.t 0)), .s (.nchk 19 (.t 18)), .s (.fa 20 (.t 19) 0), .s (.load 21 false 1 (.t 20)), .s (.mv 22 (.t 1)), .s (.ia 23 .bool (.t 21) (.t 22)), .s (.store 1 (.t 23) (.k (.v (.c .tt))))]) (.seq (.seq (.reg [.s (.mv 24 (.t 2)), .s (.len 25 false (.t 24)), .s (.mv 26 (.k (.v (.c (.int .i64 0)))))]) (.blk 0 (.loop [0, 1, 7, 24, 25, 26] lb_impl_flow_comeTo_0))) (.seq (.reg [.s (.mv 55 (.t 7)), .s (.mv 6 (.t 55))]) (.ret)))))⟩
def c_impl_flow_comeTo : Fun := ⟨93, [true, false, false], fun ts K => as3 ts fun t0 t1 t2 => arQ pFlowO t0 fun f => arC (pI .i64) t1 fun a => arC (pL .bool) t2 fun y => chk (FlowOk f f.come.length ∧ 0 ≤ a ∧ a < f.come.length ∧ y.length = 8) (K (tB (freshM f a.toNat y)) ([.v (.ptr true 0 ((comeM f a.toNat y).tc []))]))⟩
theorem run_impl_flow_comeTo (FU : Nat) (f : Flow) (a : Int) (y : List (FT.Ty .bool)) (hpre : FlowOk f f.come.length ∧ 0 ≤ a ∧ a < f.come.length ∧ y.length = 8) : runK [] (9 + FU) [true, false, false] pf_impl_flow_comeTo [.v (.ptr true 0 (f.tc [])), tI .i64 a, tL false .bool y] fun r o => r = tB (freshM f a.toNat y) ∧ o = [.v (.ptr true 0 ((comeM f a.toNat y).tc []))] := by
  obtain ⟨⟨h1, h2, h3⟩, h4, h5, h6⟩ := hpre
  obtain ⟨A, rfl⟩ := Int.eq_ofNat_of_zero_le h4
  have hA : A < f.come.length := by omega
  have h8 := h3 A hA
  conv => whnf
  repeat' (first | (refine sel_i (fun h => ?_) (fun h => ?_) <;> conv => whnf) | (refine chk_c ?_ ?_ <;> conv => whnf) | (refine And.intro ?_ rfl) | (refine And.intro ?_ ?_ <;> conv => whnf))
  all_goals (try simp only [Int.toNat_natCast] at *)
  all_goals first
    | (refine ⟨?_⟩; omega)
    | (refine ⟨?_⟩; exact ⟨by omega, by omega⟩)
    | skip
  unfold freshM comeM
  generalize hx : f.may.getD A [] = x at *
  generalize hc : (!f.come.getD A fB) = cf at *
  have hset : f.may.set A x = f.may := by rw [← hx]; exact setR_same _ _
  have newT : ∀ k, newTo x y (k + 1) = (newTo x y k || (y.getD k fB && !x.getD k fB)) := fun _ => rfl
  refine loop (α := Nat × List (List Bool) × Cell) (fun ⟨k, M, b⟩ => ⟨[(0, .v (.c (.ptr 0 0))), (1, .v (.c (.int .i64 (A : Int)))), (7, .v (.c b)), (24, .v (.c (.sl false .bool 3))), (25, .v (.c (.int .i64 (y.length : Int)))), (26, .v (.c (.int .i64 (k : Int))))],
      [(3, some (.flat false .bool none y)), (2, some (.rows true .bool M)), (1, some (.flat true .bool none (f.come.set A true))), (0, some (.box true [.sl false .bool 1, .sl false .str 2]))], nums.tail.tail.tail.tail, [.v (.c (.ptr 0 0))], false, []⟩)
    (fun q => q.1 ≤ 8 ∧ q.2.1 = f.may.set A (orTo x y q.1) ∧ ((q.2.2 = .tt ∧ (cf || newTo x y q.1) = true) ∨ q.2.2 = .bool (cf || newTo x y q.1))) (fun q => 8 - q.1) (fun q R hI hR => ?_) (0, f.may, .bool cf) _ ⟨by simp, hset.symm, .inr (by simp [newTo])⟩ (by show 8 - 0 < 9 + FU; omega)
  obtain ⟨k, M, b⟩ := q
  obtain ⟨hk, hM, hb⟩ := hI
  dsimp only at hk hM hb hR ⊢
  have hMA : M.getD A [] = orTo x y k := by rw [hM]; exact getR_set (by omega)
  have hMl : M.length = f.may.length := by rw [hM]; simp
  have hol : (orTo x y k).length = 8 := by rw [orTo_len]; exact h8
  have hat : (orTo x y k).getD k fB = x.getD k fB := orTo_at
  have w3 : IntKind.i64.wrap ((k : Int) + 1) = ((k + 1 : Nat) : Int) := by rw [wrap_id (by omega) (by omega)]; rfl
  have hnT := newT k
  clear hset newT h1
  rcases hb with ⟨rfl, hb⟩ | rfl
  all_goals (
    conv => whnf
    repeat' (first | (refine sel_i (fun h => ?_) (fun h => ?_) <;> conv => whnf) | (refine chk_c ?_ ?_ <;> conv => whnf) | (refine And.intro ?_ rfl) | (refine And.intro ?_ ?_ <;> conv => whnf))
    all_goals (try simp only [w3, hMA, hMl, hol, hat, Int.toNat_natCast, Bool.not_eq_true', Bool.not_eq_false', decide_eq_true_eq, decide_eq_false_iff_not] at *)
    all_goals first
      | (refine ⟨?_⟩; omega)
      | (refine ⟨?_⟩; exact ⟨by omega, by omega⟩)
      | (have hy1 : y.getD k fB = true := by assumption
         have hx1 : x.getD k fB = false := by assumption
         exact hR (k + 1, M.set A ((orTo x y k).set k true), .tt) ⟨by dsimp only; omega, by dsimp only; rw [hM, List.set_set, orTo_yes hy1], .inl ⟨rfl, by dsimp only; rw [hnT, hy1, hx1]; simp⟩⟩ (by dsimp only; omega))
      | (have hx1 : x.getD k fB = true := by assumption
         exact hR (k + 1, M, _) ⟨by dsimp only; omega, by dsimp only; rw [hM, orTo_no (.inr hx1)], by dsimp only; rw [hnT, hx1]; first | exact .inl ⟨rfl, by simpa using hb⟩ | exact .inr (by simp)⟩ (by dsimp only; omega))
      | (have hy1 : y.getD k fB = false := by assumption
         exact hR (k + 1, M, _) ⟨by dsimp only; omega, by dsimp only; rw [hM, orTo_no (.inl hy1)], by dsimp only; rw [hnT, hy1]; first | exact .inl ⟨rfl, by simpa using hb⟩ | exact .inr (by simp)⟩ (by dsimp only; omega))
      | (rw [show k = 8 by omega] at hb; rw [hb]; first | done | rfl)
      | (rw [show k = 8 by omega])
      | (rw [hM, show k = 8 by omega]; rfl)
      | trace_state)
theorem ok_impl_flow_comeTo : FunOk Tryz.prog c_impl_flow_comeTo := funOk (E := []) (envOk_nil) mixd Tryz.func93 (pf := pf_impl_flow_comeTo) (by kernel_rfl) fun ts K h => by
  obtain ⟨t0, t1, t2, e0, h⟩ := as3_out h
  subst e0
  obtain ⟨f, e1, hq⟩ := arQ_out rd_flow h
  clear h
  subst e1
  have h := hq
  clear hq
  obtain ⟨a, e1, hq⟩ := arC_out (rd_int .i64) h
  clear h
  subst e1
  have h := hq
  clear hq
  obtain ⟨y, e1, hq⟩ := arC_out (rd_l .bool) h
  clear h
  subst e1
  have h := hq
  clear hq
  obtain ⟨hpre, h⟩ := chk_o h
  exact ⟨_, _, h, Nat.le_of_ble_eq_true (show Nat.ble 3 Tryz.f93.ntmps = true by kernel_rfl), _, run_impl_flow_comeTo 0 f a y hpre⟩
end Go.Pi
