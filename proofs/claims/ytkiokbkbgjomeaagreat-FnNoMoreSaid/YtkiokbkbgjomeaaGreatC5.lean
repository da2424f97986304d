/- Contracts of functions, each out of its run by PI. No conditions. -/
import Derived.Test.YtkiokbkbgjomeaaGreatC4
namespace Go.Pi
open Go.Proofs
set_option linter.unusedVariables false
set_option linter.unusedSimpArgs false
set_option maxRecDepth 100000
attribute [local irreducible] iterN
theorem kMem {K : Tree → List Tree → Prop} {o : List Tree} {P : Mem → Prop} (hK : ∀ w : Mem, P w → K (tG (w.tc true [])) o) (a : List Word) (b : List Bool) (h : P ⟨a, b⟩) : K (.v (.g [.ow .word a, .ow .bool b])) o := hK ⟨a, b⟩ h
def cuC (d : Cur) (k : Nat) : List Cell := [.sl false (.int .u8) k, .int .i64 d.i, .int .i64 d.h]
theorem memoryOk_setW {m : Mem} (h : memoryOk m = true) {i : Nat} {w : Word} (hw : wordOk w = true) : memoryOk ⟨m.words.set i w, m.gone⟩ = true := by
  obtain ⟨h1, h2, h3⟩ := memoryOk_iff.1 h
  refine memoryOk_iff.2 ⟨by simp [h1], h2, fun v hv => ?_⟩
  rcases mem_set hv with q | q
  · exact h3 v q
  · rw [q]; exact hw
theorem memoryOk_setG {m : Mem} (h : memoryOk m = true) {i : Nat} {b : Bool} : memoryOk ⟨m.words, m.gone.set i b⟩ = true := by
  obtain ⟨h1, h2, h3⟩ := memoryOk_iff.1 h
  exact memoryOk_iff.2 ⟨h1, by simp [h2], h3⟩
theorem memNew_ok : memoryOk memNew = true := by decide +kernel
theorem stateNew_ok : stateOk stateNew = true := by decide +kernel
def lb_spec_l8DrawRight_0 : PC := .seq (.seq (.reg [.s (.mv 7 (.t 4)), .s (.mv 8 (.t 0)), .s (.call (some 9) 99 [(.t 8), (.k (.v (.c (.int .i64 12))))]), .s (.bin 10 .lss (.t 7) (.t 9))]) (.cond (.t 10) (.skip) (.exit 0))) (.seq (.blk 1 (.rgd [0] [.s (.fa 13 (.t 3) 0), .s (.load 14 false 1 (.t 13)), .s (.mv 15 (.t 0)), .s (.call (some 16) 99 [(.t 15), (.k (.v (.c (.int .i64 24))))]), .s (.mv 17 (.t 0)), .s (.call (some 18) 67 [(.t 17)]), .s (.ia 19 .word (.t 14) (.t 16)), .s (.store 6 (.t 19) (.t 18))] (.tk 0 (.tk 1 (.tk 2 (.tk 4 (.one 3 false (.one 5 false (.tk 6 (.one 7 true (.done none))))))))))) (.reg [.s (.mv 11 (.t 4)), .s (.bin 12 .add (.t 11) (.k (.v (.c (.int .i64 1))))), .s (.mv 4 (.t 12))]))
def lb_spec_l8DrawRight_1 : PC := .seq (.seq (.reg [.s (.mv 20 (.t 5)), .s (.mv 21 (.t 0)), .s (.call (some 22) 99 [(.t 21), (.k (.v (.c (.int .i64 4))))]), .s (.bin 23 .lss (.t 20) (.t 22))]) (.cond (.t 23) (.skip) (.exit 2))) (.seq (.blk 3 (.rgd [0] [.s (.fa 26 (.t 3) 1), .s (.load 27 false 1 (.t 26)), .s (.mv 28 (.t 0)), .s (.call (some 29) 99 [(.t 28), (.k (.v (.c (.int .i64 24))))]), .s (.ia 30 .bool (.t 27) (.t 29)), .s (.store 1 (.t 30) (.k (.v (.c .tt))))] (.tk 0 (.tk 1 (.tk 2 (.one 3 false (.tk 4 (.one 5 true (.done none))))))))) (.reg [.s (.mv 24 (.t 5)), .s (.bin 25 .add (.t 24) (.k (.v (.c (.int .i64 1))))), .s (.mv 5 (.t 25))]))
def pf_spec_l8DrawRight : PF := ⟨[.c 2 true 2], .seq (.reg [.s (.alloc 2 [.nils .word, .nils .bool])]) (.seq (.reg [.s (.call (some 6) 166 []), .s (.alloc 3 [.nils .word, .nils .bool]), .s (.store 2 (.t 3) (.t 6))]) (.seq (.seq (.reg [.s (.mv 4 (.k (.v (.c (.int .i64 0)))))]) (.blk 0 (.loop [0, 2, 3, 4] lb_spec_l8DrawRight_0))) (.seq (.seq (.reg [.s (.mv 5 (.k (.v (.c (.int .i64 0)))))]) (.blk 2 (.loop [0, 2, 3, 5] lb_spec_l8DrawRight_1))) (.seq (.reg [.s (.load 31 true 2 (.t 3)), .s (.store 2 (.t 2) (.t 31))]) (.ret)))))⟩
def c_spec_l8DrawRight : Fun := ⟨140, [true], fun ts K => as1 ts fun t0 => arQ pCurT t0 fun c => chk (CurOk c) (∀ (m : Mem) (d : Cur), (memoryOk m = true ∧ CurOk d) → K (tG (m.tc true [])) ([curOut d]))⟩
theorem run_spec_l8DrawRight (c : Cur) (hpre : CurOk c) {K : Tree → List Tree → Prop} (hK : ∀ (m : Mem) (d : Cur), (memoryOk m = true ∧ CurOk d) → K (tG (m.tc true [])) ([curOut d])) : runK [c_spec_l3DrawRight, c_spec_l1Below, c_spec_MemoryNew] (20) [true] pf_spec_l8DrawRight [.v (.ptr true 0 (c.tc []))] K := by
  conv => whnf
  refine loop (α := Nat × Cur × Mem) (fun q => ⟨[(0, .v (.c (.ptr 0 0))), (2, .v (.c (.ptr 2 0))), (3, .v (.c (.ptr 3 0))), (4, .v (.c (.int .i64 (q.1 : Int))))],
        [(5, some (.flat true .bool none q.2.2.gone)), (4, some (.flat true .word none q.2.2.words)), (3, some (.box true [.sl false .word 4, .sl false .bool 5])), (2, some (.box true [.nils .word, .nils .bool])), (1, some (.flat false (.int .u8) none q.2.1.b)), (0, some (.box true (cuC q.2.1 1)))], nums.tail.tail.tail.tail.tail.tail, [.v (.c (.ptr 0 0))], false, []⟩)
    (fun q => q.1 ≤ 12 ∧ CurOk q.2.1 ∧ memoryOk q.2.2 = true) (fun q => 12 - q.1) (fun q R hI hR => ?_) (0, c, memNew) _ ⟨by simp, hpre, memNew_ok⟩ (by simp)
  obtain ⟨i, e, m⟩ := q
  obtain ⟨hi, he, hm⟩ := hI
  dsimp only at hi he hm
  dsimp only
  have hl := memoryOk_iff.1 hm
  conv => whnf
  repeat' (first | (refine sel_i (fun h => ?_) (fun h => ?_) <;> conv => whnf) | (refine chk_c ?_ ?_ <;> conv => whnf) | (refine And.intro ?_ rfl) | (refine And.intro ?_ ?_ <;> conv => whnf) | (intro x y z d hd; (try have g1 := And.left hd); (try have g2 := And.right hd); (try have g3 := And.left (And.right hd)); (try have g4 := And.right (And.right hd)); conv => whnf) | (intro x y d hd; (try have g1 := And.left hd); (try have g2 := And.right hd); (try have g3 := And.left (And.right hd)); (try have g4 := And.right (And.right hd)); conv => whnf) | (intro x d hd; (try have g1 := And.left hd); (try have g2 := And.right hd); (try have g3 := And.left (And.right hd)); (try have g4 := And.right (And.right hd)); conv => whnf) | (intro d hd; (try have g1 := And.left hd); (try have g2 := And.right hd); (try have g3 := And.left (And.right hd)); (try have g4 := And.right (And.right hd)); conv => whnf))
  all_goals first
    | (refine ⟨?_⟩; exact he)
    | (refine ⟨?_⟩; exact hd.2)
    | (refine ⟨?_⟩; simp at *; omega)
    | (rw [wrap_id (n := (i : Int) + 1) (by omega) (by omega)]; exact hR (i + 1, _, ⟨_, _⟩) ⟨by simp at h ⊢; omega, by exact hd.2, memoryOk_setW hm hd.1⟩ (by simp at h ⊢; omega))
    | skip
  clear hR he hl hi
  refine loop (α := Nat × Cur × Mem) (fun q => ⟨[(0, .v (.c (.ptr 0 0))), (2, .v (.c (.ptr 2 0))), (3, .v (.c (.ptr 3 0))), (5, .v (.c (.int .i64 (q.1 : Int))))],
        [(5, some (.flat true .bool none q.2.2.gone)), (4, some (.flat true .word none q.2.2.words)), (3, some (.box true [.sl false .word 4, .sl false .bool 5])), (2, some (.box true [.nils .word, .nils .bool])), (1, some (.flat false (.int .u8) none q.2.1.b)), (0, some (.box true (cuC q.2.1 1)))], nums.tail.tail.tail.tail.tail.tail, [.v (.c (.ptr 0 0))], false, []⟩)
    (fun q => q.1 ≤ 12 ∧ CurOk q.2.1 ∧ memoryOk q.2.2 = true) (fun q => 12 - q.1) (fun q R hI hR => ?_) (0, d, m) _ ⟨by simp, hd.2, hm⟩ (by simp)
  obtain ⟨i, e, m⟩ := q
  obtain ⟨hi, he, hm⟩ := hI
  dsimp only at hi he hm
  dsimp only
  have hl := memoryOk_iff.1 hm
  conv => whnf
  repeat' (first | (refine sel_i (fun h => ?_) (fun h => ?_) <;> conv => whnf) | (refine chk_c ?_ ?_ <;> conv => whnf) | (refine And.intro ?_ rfl) | (refine And.intro ?_ ?_ <;> conv => whnf) | (intro x y z d hd; (try have g1 := And.left hd); (try have g2 := And.right hd); (try have g3 := And.left (And.right hd)); (try have g4 := And.right (And.right hd)); conv => whnf) | (intro x y d hd; (try have g1 := And.left hd); (try have g2 := And.right hd); (try have g3 := And.left (And.right hd)); (try have g4 := And.right (And.right hd)); conv => whnf) | (intro x d hd; (try have g1 := And.left hd); (try have g2 := And.right hd); (try have g3 := And.left (And.right hd)); (try have g4 := And.right (And.right hd)); conv => whnf) | (intro d hd; (try have g1 := And.left hd); (try have g2 := And.right hd); (try have g3 := And.left (And.right hd)); (try have g4 := And.right (And.right hd)); conv => whnf))
  all_goals first
    | (refine ⟨?_⟩; exact he)
    | (refine ⟨?_⟩; exact hd.2)
    | (refine ⟨?_⟩; simp at *; omega)
    | (rw [wrap_id (n := (i : Int) + 1) (by omega) (by omega)]; have h := of_decide_eq_true h; exact hR (i + 1, d, ⟨m.words, m.gone.set x.toNat true⟩) ⟨by dsimp only; omega, hd.2, memoryOk_setG hm⟩ (by dsimp only; omega))
    | (exact kMem (fun m hm => hK m _ hm) _ _ ⟨hm, hd.2⟩)
    | trace_state
theorem ok_spec_l8DrawRight : FunOk Tryz.prog c_spec_l8DrawRight := funOkR (E := [c_spec_l3DrawRight, c_spec_l1Below, c_spec_MemoryNew]) (envOk_cons ok_spec_l3DrawRight (envOk_cons ok_spec_l1Below (envOk_cons ok_spec_MemoryNew (envOk_nil)))) mixd Tryz.func140 (pf := pf_spec_l8DrawRight) (by kernel_rfl) fun ts K h => by
  obtain ⟨t0, e0, h⟩ := as1_out h
  subst e0
  obtain ⟨c, e1, hq⟩ := arQ_out rd_cur h
  clear h
  subst e1
  have h := hq
  clear hq
  obtain ⟨hpre, h⟩ := chk_o h
  exact ⟨Nat.le_of_ble_eq_true (show Nat.ble 1 Tryz.f140.ntmps = true by kernel_rfl), _, run_spec_l8DrawRight c hpre h⟩

theorem stateOk_setR {s : State} (h : stateOk s = true) {i : Nat} {w : Word} (hw : wordOk w = true) {m : Mem} (hm : memoryOk m = true) : stateOk ⟨s.regs.set i w, s.pc, m, s.trap⟩ = true := by
  obtain ⟨r1, r2, r3, r4, r5, r6⟩ := stateOk_iff.1 h
  refine stateOk_iff.2 ⟨by simp [r1], fun v hv => ?_, r3, hm, r5, r6⟩
  rcases mem_set hv with q | q
  · exact r2 v q
  · rw [q]; exact hw
theorem snN : stateNew.regs.length = 8 := rfl

def lb_spec_l9DrawState_0 : PC := .seq (.seq (.reg [.s (.mv 27 (.t 7)), .s (.mv 28 (.t 6)), .s (.bin 29 .lss (.t 27) (.t 28))]) (.cond (.t 29) (.skip) (.exit 0))) (.seq (.blk 1 (.seq (.reg [.s (.mv 32 (.t 4)), .s (.load 33 true 10 (.t 5)), .s (.call (some 34) 85 [(.t 32), (.t 33)]), .s (.alloc 8 [.nils .word, .int .i64 0, .ff, .int .i64 0, .int .i64 0, .int .i64 0, .int .i64 0, .nils .word, .nils .bool, .int .i64 0]), .s (.store 10 (.t 8) (.t 34))]) (.seq (.reg [.s (.fa 35 (.t 8) 9), .s (.load 36 false 1 (.t 35)), .s (.bin 37 .eql (.t 36) (.k (.v (.c (.int .i64 0)))))]) (.cond (.t 37) (.reg [.s (.load 38 true 10 (.t 8)), .s (.store 10 (.t 5) (.t 38))]) (.skip))))) (.reg [.s (.mv 30 (.t 7)), .s (.bin 31 .add (.t 30) (.k (.v (.c (.int .i64 1))))), .s (.mv 7 (.t 31))]))
def pf_spec_l9DrawState : PF := ⟨[.t 2, .c 3 true 10], .seq (.reg [.s (.mv 2 (.k (.v (.c (.nils .inst))))), .s (.alloc 3 [.nils .word, .int .i64 0, .ff, .int .i64 0, .int .i64 0, .int .i64 0, .int .i64 0, .nils .word, .nils .bool, .int .i64 0])]) (.seq (.reg [.s (.mv 9 (.t 0)), .s (.call (some 10) 138 [(.t 9)]), .s (.mv 4 (.t 10))]) (.seq (.reg [.s (.call (some 11) 139 []), .s (.alloc 5 [.nils .word, .int .i64 0, .ff, .int .i64 0, .int .i64 0, .int .i64 0, .int .i64 0, .nils .word, .nils .bool, .int .i64 0]), .s (.store 10 (.t 5) (.t 11))]) (.seq (.seq (.reg [.s (.mv 12 (.t 0)), .s (.call (some 13) 66 [(.t 12), (.k (.v (.c (.int .i64 2))))])]) (.cond (.t 13) (.seq (.reg [.s (.mv 14 (.t 0)), .s (.call (some 15) 140 [(.t 14)]), .s (.fa 16 (.t 5) 7), .s (.store 2 (.t 16) (.t 15))]) (.rgd [0] [.s (.fa 17 (.t 5) 0), .s (.load 18 false 1 (.t 17)), .s (.mv 19 (.t 0)), .s (.call (some 20) 99 [(.t 19), (.k (.v (.c (.int .i64 4))))]), .s (.bin 21 .add (.k (.v (.c (.int .i64 1)))) (.t 20)), .s (.mv 22 (.t 0)), .s (.call (some 23) 67 [(.t 22)]), .s (.ia 24 .word (.t 18) (.t 21)), .s (.store 6 (.t 24) (.t 23))] (.tk 0 (.tk 1 (.tk 2 (.tk 5 (.one 3 false (.tk 4 (.one 6 false (.tk 7 (.one 8 true (.done none)))))))))))) (.skip))) (.seq (.reg [.s (.mv 25 (.t 0)), .s (.call (some 26) 99 [(.t 25), (.k (.v (.c (.int .i64 10))))]), .s (.mv 6 (.t 26))]) (.seq (.seq (.reg [.s (.mv 7 (.k (.v (.c (.int .i64 0)))))]) (.blk 0 (.loop [3, 4, 5, 6, 7] lb_spec_l9DrawState_0))) (.seq (.rgd [] [.s (.mv 39 (.t 4)), .s (.load 40 true 10 (.t 5)), .s (.mv 2 (.t 39)), .s (.store 10 (.t 3) (.t 40))] (.tk 0 (.tk 1 (.tk 2 (.one 3 true (.done none)))))) (.ret)))))))⟩
def c_spec_l9DrawState : Fun := ⟨65, [true], fun ts K => as1 ts fun t0 => arQ pCurT t0 fun c => chk (CurOk c) (∀ (l : List Inst) (s : State) (d : Cur), ((l.length ≤ 20 ∧ 1 ≤ l.length) ∧ stateOk s = true ∧ CurOk d) → K (.tup [.c (tl true .inst l), .g (s.tc true [])]) ([curOut d]))⟩
theorem run_spec_l9DrawState (c : Cur) (hpre : CurOk c) {K : Tree → List Tree → Prop} (hK : ∀ (l : List Inst) (s : State) (d : Cur), ((l.length ≤ 20 ∧ 1 ≤ l.length) ∧ stateOk s = true ∧ CurOk d) → K (.tup [.c (tl true .inst l), .g (s.tc true [])]) ([curOut d])) : runK [c_spec_l1Once, c_spec_l3DrawRight, c_spec_Step, c_spec_l1Below, c_spec_l6DrawCode, c_spec_StateNew, c_spec_l8DrawRight] (12) [true] pf_spec_l9DrawState [.v (.ptr true 0 (c.tc []))] K := by
  conv => whnf
  repeat' (first | (refine sel_i (fun h => ?_) (fun h => ?_) <;> conv => whnf) | (refine chk_c ?_ ?_ <;> conv => whnf) | (refine And.intro ?_ rfl) | (refine And.intro ?_ ?_ <;> conv => whnf) | (intro x y z d hd; (try have g1 := And.left hd); (try have g2 := And.right hd); (try have g3 := And.left (And.right hd)); (try have g4 := And.right (And.right hd)); conv => whnf) | (intro x y d hd; (try have g1 := And.left hd); (try have g2 := And.right hd); (try have g3 := And.left (And.right hd)); (try have g4 := And.right (And.right hd)); conv => whnf) | (intro x d hd; (try have g1 := And.left hd); (try have g2 := And.right hd); (try have g3 := And.left (And.right hd)); (try have g4 := And.right (And.right hd)); conv => whnf) | (intro d hd; (try have g1 := And.left hd); (try have g2 := And.right hd); (try have g3 := And.left (And.right hd)); (try have g4 := And.right (And.right hd)); conv => whnf))
  all_goals first
    | (refine ⟨?_⟩; exact hd)
    | (refine ⟨?_⟩; exact hd.2)
    | (refine ⟨?_⟩; exact hpre)
    | (refine ⟨?_⟩; decide)
    | (refine ⟨?_⟩; rfl)
    | (refine ⟨?_⟩; exact hd.2.2)
    | (refine ⟨?_⟩; rw [snN, wrap_id (by omega) (by omega)]; omega)
    | skip
  all_goals (
    have hx := hd.1
    refine loop (α := Nat × State) (fun q => ⟨[(3, .v (.c (.ptr 2 0))), (4, .v (.c (.sl false .inst 3))), (5, .v (.c (.ptr 4 0))), (6, .v (.c (.int .i64 x))), (7, .v (.c (.int .i64 (q.1 : Int))))],
        [(7, some (.flat true .bool none q.2.mem.gone)), (6, some (.flat true .word none q.2.mem.words)), (5, some (.flat true .word none q.2.regs)), (4, some (.box true (stC q.2 5 6 7 []))), (3, some (.flat true .inst none _)), (2, some (.box true zSC)), (1, some (.flat false (.int .u8) none d.b)), (0, some (.box true (cuC d 1)))], nums.tail.tail.tail.tail.tail.tail.tail.tail, [.v (.c (.ptr 0 0))], false, []⟩)
      (fun q => (q.1 : Int) ≤ x ∧ stateOk q.2 = true) (fun q => 10 - q.1) (fun q R hI hR => ?_) (0, ⟨_, _, ⟨_, _⟩, _⟩) _ ⟨by simp; omega, by first | exact stateNew_ok | exact stateOk_setR stateNew_ok (by assumption) (by assumption)⟩ (by simp)
    obtain ⟨i, v⟩ := q
    obtain ⟨hi, hv⟩ := hI
    dsimp only at hi hv
    dsimp only
    have hlen := (stateOk_len hv).l
    conv => whnf
    repeat' (first | (refine sel_i (fun h => ?_) (fun h => ?_) <;> conv => whnf) | (refine chk_c ?_ ?_ <;> conv => whnf) | (refine And.intro ?_ rfl) | (refine And.intro ?_ ?_ <;> conv => whnf) | (intro x y z d hd; (try have g1 := And.left hd); (try have g2 := And.right hd); (try have g3 := And.left (And.right hd)); (try have g4 := And.right (And.right hd)); conv => whnf) | (intro x y d hd; (try have g1 := And.left hd); (try have g2 := And.right hd); (try have g3 := And.left (And.right hd)); (try have g4 := And.right (And.right hd)); conv => whnf) | (intro x d hd; (try have g1 := And.left hd); (try have g2 := And.right hd); (try have g3 := And.left (And.right hd)); (try have g4 := And.right (And.right hd)); conv => whnf) | (intro d hd; (try have g1 := And.left hd); (try have g2 := And.right hd); (try have g3 := And.left (And.right hd)); (try have g4 := And.right (And.right hd)); conv => whnf))
    all_goals (try simp only [etaKey, etaWord, etaMemory, etaState, decide_eq_true_eq, decide_eq_false_iff_not, beq_iff_eq] at *)
    all_goals first
      | (refine ⟨?_⟩; exact ⟨by omega, hlen⟩)
      | (rw [wrap_id (n := (i : Int) + 1) (by omega) (by omega)]; exact hR (i + 1, stepS _ v) ⟨by dsimp only; omega, stepS_ok hv⟩ (by dsimp only; omega))
      | (rw [wrap_id (n := (i : Int) + 1) (by omega) (by omega)]; exact hR (i + 1, v) ⟨by dsimp only; omega, hv⟩ (by dsimp only; omega))
      | (exact hK _ v d ⟨⟨by omega, by omega⟩, hv, hd.2⟩)
      | trace_state)
theorem ok_spec_l9DrawState : FunOk Tryz.prog c_spec_l9DrawState := funOkR (E := [c_spec_l1Once, c_spec_l3DrawRight, c_spec_Step, c_spec_l1Below, c_spec_l6DrawCode, c_spec_StateNew, c_spec_l8DrawRight]) (envOk_cons ok_spec_l1Once (envOk_cons ok_spec_l3DrawRight (envOk_cons ok_spec_Step (envOk_cons ok_spec_l1Below (envOk_cons ok_spec_l6DrawCode (envOk_cons ok_spec_StateNew (envOk_cons ok_spec_l8DrawRight (envOk_nil)))))))) mixd Tryz.func65 (pf := pf_spec_l9DrawState) (by kernel_rfl) fun ts K h => by
  obtain ⟨t0, e0, h⟩ := as1_out h
  subst e0
  obtain ⟨c, e1, hq⟩ := arQ_out rd_cur h
  clear h
  subst e1
  have h := hq
  clear hq
  obtain ⟨hpre, h⟩ := chk_o h
  exact ⟨Nat.le_of_ble_eq_true (show Nat.ble 1 Tryz.f65.ntmps = true by kernel_rfl), _, run_spec_l9DrawState c hpre h⟩

theorem U8s.app {a b : List Int} (ha : U8s a) (hb : U8s b) : U8s (a ++ b) := fun x hx => by
  rcases List.mem_append.1 hx with q | q
  · exact ha x q
  · exact hb x q
theorem U8s.put {a : List Int} (ha : U8s a) {i : Nat} {v : Int} (hv : 0 ≤ v ∧ v ≤ 255) : U8s (a.set i v) := fun x hx => by
  rcases mem_set hx with q | q
  · exact ha x q
  · rw [q]; exact hv
theorem kState {K : Tree → List Tree → Prop} {o : List Tree} {P : State → Prop} {l : List Inst} (hK : ∀ s : State, P s → K (.tup [.c (tl true .inst l), .g (s.tc true [])]) o) (a : List Word) (n : Int) (is : Bool) (e f g h : Int) (b : List Word) (c : List Bool) (t : Int) (hp : P ⟨a, ⟨n, is, ⟨e, f, g, h⟩⟩, ⟨b, c⟩, t⟩) :
    K (.tup [.c (.ow .inst l), .g [.ow .word a, .int .i64 n, .bool is, .int .i64 e, .int .i64 f, .int .i64 g, .int .i64 h, .ow .word b, .ow .bool c, .int .i64 t]]) o := hK ⟨a, ⟨n, is, ⟨e, f, g, h⟩⟩, ⟨b, c⟩, t⟩ hp

def pf_spec_DrawGoing : PF := ⟨[.t 2, .c 3 true 10], .seq (.reg [.s (.mv 2 (.k (.v (.c (.nils .inst))))), .s (.alloc 3 [.nils .word, .int .i64 0, .ff, .int .i64 0, .int .i64 0, .int .i64 0, .int .i64 0, .nils .word, .nils .bool, .int .i64 0])]) (.seq (.reg [.s (.mv 7 (.t 0)), .s (.call (some 8) 64 [(.t 7)]), .s (.mv 4 (.t 8))]) (.seq (.reg [.s (.mv 10 (.t 4)), .s (.call (some 11) 65 [(.t 10)]), .s (.mv 9 (.t 11)), .s (.ext 12 (.t 9) 0), .s (.ext 13 (.t 9) 1), .s (.alloc 6 [.nils .word, .int .i64 0, .ff, .int .i64 0, .int .i64 0, .int .i64 0, .int .i64 0, .nils .word, .nils .bool, .int .i64 0]), .s (.mv 5 (.t 12)), .s (.store 10 (.t 6) (.t 13))]) (.seq (.seq (.reg [.s (.mv 14 (.t 4)), .s (.call (some 15) 66 [(.t 14), (.k (.v (.c (.int .i64 2))))])]) (.cond (.t 15) (.rgd [4] [.s (.fa 16 (.t 6) 0), .s (.load 17 false 1 (.t 16)), .s (.mv 18 (.t 4)), .s (.call (some 19) 67 [(.t 18)]), .s (.ia 20 .word (.t 17) (.k (.v (.c (.int .i64 0))))), .s (.store 6 (.t 20) (.t 19))] (.tk 0 (.tk 1 (.tk 2 (.one 3 false (.tk 4 (.one 5 true (.done none)))))))) (.skip))) (.seq (.rgd [] [.s (.mv 21 (.t 5)), .s (.load 22 true 10 (.t 6)), .s (.mv 2 (.t 21)), .s (.store 10 (.t 3) (.t 22))] (.tk 0 (.tk 1 (.tk 2 (.one 3 true (.done none)))))) (.ret)))))⟩
def c_spec_DrawGoing : Fun := ⟨11, [], fun ts K => as1 ts fun t0 => arC (pL (.int .u8)) t0 fun code => chk (code.length ≤ 1048576) (∀ (l : List Inst) (s : State), ((l.length ≤ 20 ∧ 1 ≤ l.length) ∧ stateOk s = true) → K (.tup [.c (tl true .inst l), .g (s.tc true [])]) [])⟩
theorem run_spec_DrawGoing (code : List (FT.Ty (.int .u8))) (hpre : code.length ≤ 1048576) {K : Tree → List Tree → Prop} (hK : ∀ (l : List Inst) (s : State), ((l.length ≤ 20 ∧ 1 ≤ l.length) ∧ stateOk s = true) → K (.tup [.c (tl true .inst l), .g (s.tc true [])]) []) : runK [c_spec_l1New, c_spec_l9DrawState, c_spec_l1Once, c_spec_l3DrawRight] (0) [] pf_spec_DrawGoing [tL false (.int .u8) code] K := by
  conv => whnf
  repeat' (first | (refine sel_i (fun h => ?_) (fun h => ?_) <;> conv => whnf) | (refine chk_c ?_ ?_ <;> conv => whnf) | (refine And.intro ?_ rfl) | (refine And.intro ?_ ?_ <;> conv => whnf) | (intro x y z d hd; (try have g1 := And.left hd); (try have g2 := And.right hd); (try have g3 := And.left (And.right hd)); (try have g4 := And.right (And.right hd)); conv => whnf) | (intro x y d hd; (try have g1 := And.left hd); (try have g2 := And.right hd); (try have g3 := And.left (And.right hd)); (try have g4 := And.right (And.right hd)); conv => whnf) | (intro x d hd; (try have g1 := And.left hd); (try have g2 := And.right hd); (try have g3 := And.left (And.right hd)); (try have g4 := And.right (And.right hd)); conv => whnf) | (intro d hd; (try have g1 := And.left hd); (try have g2 := And.right hd); (try have g3 := And.left (And.right hd)); (try have g4 := And.right (And.right hd)); conv => whnf))
  all_goals first
    | (refine ⟨?_⟩; exact hd)
    | (refine ⟨?_⟩; exact hd.2)
    | (refine ⟨?_⟩; exact hd.2.2)
    | (refine ⟨?_⟩; exact hpre)
    | (refine ⟨?_⟩; exact ⟨hd, by simp⟩)
    | (refine ⟨?_⟩; exact ⟨hd.2, by simp⟩)
    | (refine ⟨?_⟩; exact ⟨hd.2.2, by simp⟩)
    | (refine ⟨?_⟩; decide)
    | (refine ⟨?_⟩; rfl)
    | (refine ⟨?_⟩; obtain ⟨hl1, hl2, hl3⟩ := stateOk_len (s := y) (by assumption); omega)
    | (refine ⟨?_⟩; obtain ⟨hl1, hl2, hl3⟩ := stateOk_len (s := y) (by assumption); rw [hl1]; decide)
    | (have hs : stateOk y = true := (by assumption); have hw : wordOk x = true := (by assumption); refine kState (fun s hs => hK _ s hs) _ _ _ _ _ _ _ _ _ _ ⟨?_, ?_⟩ <;> first | assumption | exact stateOk_setR hs hw (stateOk_iff.1 hs).2.2.2.1)
    | (refine kState (fun s hs => hK _ s hs) _ _ _ _ _ _ _ _ _ _ ⟨?_, ?_⟩ <;> assumption)
    | trace_state
theorem ok_spec_DrawGoing : FunOk Tryz.prog c_spec_DrawGoing := funOkR (E := [c_spec_l1New, c_spec_l9DrawState, c_spec_l1Once, c_spec_l3DrawRight]) (envOk_cons ok_spec_l1New (envOk_cons ok_spec_l9DrawState (envOk_cons ok_spec_l1Once (envOk_cons ok_spec_l3DrawRight (envOk_nil))))) mixd Tryz.func11 (pf := pf_spec_DrawGoing) (by kernel_rfl) fun ts K h => by
  obtain ⟨t0, e0, h⟩ := as1_out h
  subst e0
  obtain ⟨code, e1, hq⟩ := arC_out (rd_l (.int .u8)) h
  clear h
  subst e1
  have h := hq
  clear hq
  obtain ⟨hpre, h⟩ := chk_o h
  exact ⟨Nat.le_of_ble_eq_true (show Nat.ble 1 Tryz.f11.ntmps = true by kernel_rfl), _, run_spec_DrawGoing code hpre h⟩

theorem eq_end {α : Type} [DecidableEq α] {xs ys : List α} {i : Nat} (hl : xs.length = ys.length) (h : xs.length ≤ i) (he : xs.take i = ys.take i) : decide (xs = ys) = true := by
  rw [List.take_of_length_le h, List.take_of_length_le (by omega)] at he
  exact decide_eq_true he
theorem eq_no {α : Type} [DecidableEq α] {xs ys : List α} {i : Nat} {z : α} (hne : ¬ xs.getD i z = ys.getD i z) : decide (xs = ys) = false :=
  decide_eq_false fun e => hne (by rw [e])
theorem eq_yes {α : Type} {xs ys : List α} {i : Nat} {z : α} (hl : xs.length = ys.length) (h : i < xs.length) (hq : xs.getD i z = ys.getD i z) (he : xs.take i = ys.take i) : xs.take (i + 1) = ys.take (i + 1) := by
  have h2 : i < ys.length := by omega
  rw [List.take_add_one, List.take_add_one, he, List.getElem?_eq_getElem h, List.getElem?_eq_getElem h2]
  rw [List.getD_eq_getElem?_getD, List.getD_eq_getElem?_getD, List.getElem?_eq_getElem h, List.getElem?_eq_getElem h2] at hq
  simp only [Option.getD_some] at hq
  rw [hq]
theorem len_ne {α : Type} [DecidableEq α] {xs ys : List α} (h : ((xs.length : Int) != (ys.length : Int)) = true) : decide (xs = ys) = false :=
  decide_eq_false fun e => by rw [e] at h; simp at h
theorem len_eq {α : Type} {xs ys : List α} (h : ((xs.length : Int) != (ys.length : Int)) = false) : xs.length = ys.length := by
  simp at h; omega
theorem eqWd {a b : Word} : (a.n == b.n && (a.is == b.is && (a.key.base == b.key.base && (a.key.top == b.key.top && (a.key.perms == b.key.perms && a.key.sealed == b.key.sealed))))) = decide (a = b) := by
  obtain ⟨a1, a2, a3, a4, a5, a6⟩ := a
  obtain ⟨b1, b2, b3, b4, b5, b6⟩ := b
  rw [Bool.eq_iff_iff]
  simp
theorem eqStE {s t : State} (h1 : s.regs = t.regs) (h2 : s.pc = t.pc) (h3 : s.mem = t.mem) : (s.trap == t.trap) = decide (s = t) := by
  obtain ⟨a1, a2, a3, a4⟩ := s
  obtain ⟨b1, b2, b3, b4⟩ := t
  dsimp only at h1 h2 h3
  rw [Bool.eq_iff_iff]; simp [h1, h2, h3]
theorem eqMm {s t : Mem} (h1 : s.words = t.words) (h2 : s.gone = t.gone) : s = t := by
  obtain ⟨a1, a2⟩ := s
  obtain ⟨b1, b2⟩ := t
  dsimp only at h1 h2
  rw [h1, h2]

def lb_laws_hasInt_0 : PC := .seq (.seq (.reg [.s (.mv 6 (.t 5)), .s (.mv 7 (.t 0)), .s (.len 8 false (.t 7)), .s (.bin 9 .lss (.t 6) (.t 8))]) (.cond (.t 9) (.skip) (.exit 0))) (.seq (.blk 1 (.seq (.reg [.s (.mv 12 (.t 0)), .s (.mv 13 (.t 5)), .s (.ia 14 (.int .i64) (.t 12) (.t 13)), .s (.load 15 false 1 (.t 14)), .s (.mv 16 (.t 1)), .s (.bin 17 .eql (.t 15) (.t 16))]) (.cond (.t 17) (.seq (.reg [.s (.mv 4 (.k (.v (.c .tt))))]) (.ret)) (.skip)))) (.reg [.s (.mv 10 (.t 5)), .s (.bin 11 .add (.t 10) (.k (.v (.c (.int .i64 1))))), .s (.mv 5 (.t 11))]))
def pf_laws_hasInt : PF := ⟨[.t 4], .seq (.reg [.s (.mv 4 (.k (.v (.c .ff))))]) (.seq (.seq (.reg [.s (.mv 5 (.k (.v (.c (.int .i64 0)))))]) (.blk 0 (.loop [0, 1, 5] lb_laws_hasInt_0))) (.seq (.reg [.s (.mv 4 (.k (.v (.c .ff))))]) (.ret)))⟩
def c_laws_hasInt : Fun := ⟨22, [], fun ts K => as2 ts fun t0 t1 => arC (pL (.int .i64)) t0 fun l => arC (pI .i64) t1 fun x => chk (l.length ≤ 2147483647) (K (tB (l.any (fun v => v == x))) [])⟩
theorem run_laws_hasInt (l : List (FT.Ty (.int .i64))) (x : Int) (hpre : l.length ≤ 2147483647) : runK [] (l.length + 1) [] pf_laws_hasInt [tL false (.int .i64) l, tI .i64 x] fun r o => r = tB (l.any (fun v => v == x)) ∧ o = [] := by
  conv => whnf
  refine loop (α := Nat) (fun i => ⟨[(0, .v (.c (.sl false (.int .i64) 0))), (1, .v (.c (.int .i64 x))), (5, .v (.c (.int .i64 (i : Int))))], [(0, some (.flat false (.int .i64) none l))], nums.tail, [], false, []⟩)
      (fun i => i ≤ l.length ∧ (l.drop i).any (fun v => v == x) = l.any (fun v => v == x)) (fun i => l.length - i) (fun i R hI hR => ?_) 0 _ ⟨by simp, by simp⟩ (by omega)
  obtain ⟨hi, hx⟩ := hI
  conv => whnf
  repeat' (first | (refine sel_i (fun h => ?_) (fun h => ?_) <;> conv => whnf) | (refine chk_c ?_ ?_ <;> conv => whnf) | (refine And.intro ?_ rfl) | (refine And.intro ?_ ?_ <;> conv => whnf))
  all_goals (try simp only [Int.toNat_natCast, decide_eq_true_eq, decide_eq_false_iff_not] at *)
  all_goals first
    | (refine ⟨?_⟩; omega)
    | (rw [any_yes (z := FT.zero (.int .i64)) (by omega) (by assumption) hx]; done)
    | (rw [any_end (by omega) hx]; done)
    | (rw [wrap_id (n := (i : Int) + 1) (by omega) (by omega)]; exact hR (i + 1) ⟨by omega, any_no (z := FT.zero (.int .i64)) (by omega) (by assumption) hx⟩ (by omega))
    | trace_state
theorem ok_laws_hasInt : FunOk Tryz.prog c_laws_hasInt := funOk (E := []) (envOk_nil) mixd Tryz.func22 (pf := pf_laws_hasInt) (by kernel_rfl) fun ts K h => by
  obtain ⟨t0, t1, e0, h⟩ := as2_out h
  subst e0
  obtain ⟨l, e1, hq⟩ := arC_out (rd_l (.int .i64)) h
  clear h
  subst e1
  have h := hq
  clear hq
  obtain ⟨x, e1, hq⟩ := arC_out (rd_int .i64) h
  clear h
  subst e1
  have h := hq
  clear hq
  obtain ⟨hpre, h⟩ := chk_o h
  exact ⟨_, _, h, Nat.le_of_ble_eq_true (show Nat.ble 2 Tryz.f22.ntmps = true by kernel_rfl), _, run_laws_hasInt l x hpre⟩

def lb_laws_allIn_0 : PC := .seq (.seq (.reg [.s (.mv 6 (.t 5)), .s (.mv 7 (.t 0)), .s (.len 8 false (.t 7)), .s (.bin 9 .lss (.t 6) (.t 8))]) (.cond (.t 9) (.skip) (.exit 0))) (.seq (.blk 1 (.seq (.reg [.s (.mv 12 (.t 1)), .s (.mv 13 (.t 0)), .s (.mv 14 (.t 5)), .s (.ia 15 (.int .i64) (.t 13) (.t 14)), .s (.load 16 false 1 (.t 15)), .s (.call (some 17) 22 [(.t 12), (.t 16)]), .s (.bnot 18 (.t 17))]) (.cond (.t 18) (.seq (.reg [.s (.mv 4 (.k (.v (.c .ff))))]) (.ret)) (.skip)))) (.reg [.s (.mv 10 (.t 5)), .s (.bin 11 .add (.t 10) (.k (.v (.c (.int .i64 1))))), .s (.mv 5 (.t 11))]))
def pf_laws_allIn : PF := ⟨[.t 4], .seq (.reg [.s (.mv 4 (.k (.v (.c .ff))))]) (.seq (.seq (.reg [.s (.mv 5 (.k (.v (.c (.int .i64 0)))))]) (.blk 0 (.loop [0, 1, 5] lb_laws_allIn_0))) (.seq (.reg [.s (.mv 4 (.k (.v (.c .tt))))]) (.ret)))⟩
def c_laws_allIn : Fun := ⟨18, [], fun ts K => as2 ts fun t0 t1 => arC (pL (.int .i64)) t0 fun a => arC (pL (.int .i64)) t1 fun b => chk (a.length ≤ 2147483647 ∧ b.length ≤ 2147483647) (K (tB (a.all (fun x => b.any (fun v => v == x)))) [])⟩
theorem run_laws_allIn (a : List (FT.Ty (.int .i64))) (b : List (FT.Ty (.int .i64))) (hpre : a.length ≤ 2147483647 ∧ b.length ≤ 2147483647) : runK [c_laws_hasInt] (a.length + 1) [] pf_laws_allIn [tL false (.int .i64) a, tL false (.int .i64) b] fun r o => r = tB (a.all (fun x => b.any (fun v => v == x))) ∧ o = [] := by
  obtain ⟨l1, l2⟩ := hpre
  conv => whnf
  refine loop (α := Nat) (fun i => ⟨[(0, .v (.c (.sl false (.int .i64) 0))), (1, .v (.c (.sl false (.int .i64) 1))), (5, .v (.c (.int .i64 (i : Int))))], [(1, some (.flat false (.int .i64) none b)), (0, some (.flat false (.int .i64) none a))], nums.tail.tail, [], false, []⟩)
      (fun i => i ≤ a.length ∧ (a.drop i).all (fun x => b.any (fun v => v == x)) = a.all (fun x => b.any (fun v => v == x))) (fun i => a.length - i) (fun i R hI hR => ?_) 0 _ ⟨by simp, by simp⟩ (by omega)
  obtain ⟨hi, hx⟩ := hI
  conv => whnf
  repeat' (first | (refine sel_i (fun h => ?_) (fun h => ?_) <;> conv => whnf) | (refine chk_c ?_ ?_ <;> conv => whnf) | (refine And.intro ?_ rfl) | (refine And.intro ?_ ?_ <;> conv => whnf))
  all_goals (try simp only [Int.toNat_natCast, Bool.not_eq_true', Bool.not_eq_false', decide_eq_true_eq, decide_eq_false_iff_not] at *)
  all_goals first
    | (refine ⟨?_⟩; omega)
    | (refine ⟨?_⟩; exact l2)
    | (rw [all_no (z := FT.zero (.int .i64)) (by omega) (by assumption) hx]; done)
    | (rw [all_end (by omega) hx]; done)
    | (rw [wrap_id (n := (i : Int) + 1) (by omega) (by omega)]; exact hR (i + 1) ⟨by omega, all_yes (z := FT.zero (.int .i64)) (by omega) (by assumption) hx⟩ (by omega))
    | trace_state
theorem ok_laws_allIn : FunOk Tryz.prog c_laws_allIn := funOk (E := [c_laws_hasInt]) (envOk_cons ok_laws_hasInt (envOk_nil)) mixd Tryz.func18 (pf := pf_laws_allIn) (by kernel_rfl) fun ts K h => by
  obtain ⟨t0, t1, e0, h⟩ := as2_out h
  subst e0
  obtain ⟨a, e1, hq⟩ := arC_out (rd_l (.int .i64)) h
  clear h
  subst e1
  have h := hq
  clear hq
  obtain ⟨b, e1, hq⟩ := arC_out (rd_l (.int .i64)) h
  clear h
  subst e1
  have h := hq
  clear hq
  obtain ⟨hpre, h⟩ := chk_o h
  exact ⟨_, _, h, Nat.le_of_ble_eq_true (show Nat.ble 2 Tryz.f18.ntmps = true by kernel_rfl), _, run_laws_allIn a b hpre⟩

def lb_slices_Equal_Word_0 : PC := .seq (.reg [.s (.bin 14 .lss (.t 13) (.t 12))]) (.seq (.cond (.t 14) (.skip) (.exit 0)) (.seq (.blk 1 (.seq (.reg [.s (.mv 15 (.t 13)), .s (.mv 5 (.t 15))]) (.seq (.rgd [] [.s (.mv 16 (.t 0)), .s (.mv 17 (.t 5)), .s (.ia 18 .word (.t 16) (.t 17)), .s (.load 19 true 6 (.t 18)), .s (.mv 20 (.t 1)), .s (.mv 21 (.t 5)), .s (.ia 22 .word (.t 20) (.t 21)), .s (.load 23 true 6 (.t 22)), .s (.eqs 24 true [.i, .b, .i, .i, .i, .i] true (.t 19) (.t 23))] (.tk 0 (.tk 1 (.tk 2 (.tk 3 (.tk 4 (.tk 5 (.tk 6 (.tk 7 (.tk 8 (.done none))))))))))) (.cond (.t 24) (.seq (.reg [.s (.mv 4 (.k (.v (.c .ff))))]) (.ret)) (.skip))))) (.reg [.s (.bin 25 .add (.t 13) (.k (.v (.c (.int .i64 1))))), .s (.mv 13 (.t 25))])))
def pf_slices_Equal_Word : PF := ⟨[.t 4], .seq (.reg [.s (.mv 4 (.k (.v (.c .ff))))]) (.seq (.seq (.reg [.s (.mv 6 (.t 0)), .s (.len 7 false (.t 6)), .s (.mv 8 (.t 1)), .s (.len 9 false (.t 8)), .s (.bin 10 .neq (.t 7) (.t 9))]) (.cond (.t 10) (.seq (.reg [.s (.mv 4 (.k (.v (.c .ff))))]) (.ret)) (.skip))) (.seq (.seq (.reg [.s (.mv 11 (.t 0)), .s (.len 12 false (.t 11)), .s (.mv 13 (.k (.v (.c (.int .i64 0)))))]) (.blk 0 (.loop [0, 1, 12, 13] lb_slices_Equal_Word_0))) (.seq (.reg [.s (.mv 4 (.k (.v (.c .tt))))]) (.ret))))⟩
def c_slices_Equal_Word : Fun := ⟨86, [], fun ts K => as2 ts fun t0 t1 => arC (pL .word) t0 fun a => arC (pL .word) t1 fun b => chk (a.length ≤ 2147483647 ∧ b.length ≤ 2147483647) (K (tB (decide (a = b))) [])⟩
theorem run_slices_Equal_Word (a : List (FT.Ty .word)) (b : List (FT.Ty .word)) (hpre : a.length ≤ 2147483647 ∧ b.length ≤ 2147483647) : runK [] (a.length + 1) [] pf_slices_Equal_Word [tL false .word a, tL false .word b] fun r o => r = tB (decide (a = b)) ∧ o = [] := by
  obtain ⟨l1, l2⟩ := hpre
  conv => whnf
  refine sel_i (fun h => ?_) (fun h => ?_) <;> conv => whnf
  · rw [len_ne h]; exact ⟨rfl, rfl⟩
  have hl := len_eq h
  clear h
  refine loop (α := Nat) (fun i => ⟨[(0, .v (.c (.sl false .word 0))), (1, .v (.c (.sl false .word 1))), (12, .v (.c (.int .i64 (a.length : Int)))), (13, .v (.c (.int .i64 (i : Int))))], [(1, some (.flat false .word none b)), (0, some (.flat false .word none a))], nums.tail.tail, [], false, []⟩)
      (fun i => i ≤ a.length ∧ a.take i = b.take i) (fun i => a.length - i) (fun i R hI hR => ?_) 0 _ ⟨by simp, by simp⟩ (by omega)
  obtain ⟨hi, hx⟩ := hI
  conv => whnf
  repeat' (first | (refine sel_i (fun h => ?_) (fun h => ?_) <;> conv => whnf) | (refine chk_c ?_ ?_ <;> conv => whnf) | (refine And.intro ?_ rfl) | (refine And.intro ?_ ?_ <;> conv => whnf))
  all_goals (try simp only [eqWd, etaKey, etaWord, Int.toNat_natCast, Bool.not_eq_true', Bool.not_eq_false', decide_eq_true_eq, decide_eq_false_iff_not] at *)
  all_goals first
    | (refine ⟨?_⟩; omega)
    | (rw [eq_no (z := FT.zero .word) (by assumption)]; done)
    | (rw [eq_end hl (by omega) hx]; done)
    | (rw [wrap_id (n := (i : Int) + 1) (by omega) (by omega)]; exact hR (i + 1) ⟨by omega, eq_yes (z := FT.zero .word) hl (by omega) (by assumption) hx⟩ (by omega))
    | trace_state
theorem ok_slices_Equal_Word : FunOk Tryz.prog c_slices_Equal_Word := funOk (E := []) (envOk_nil) mixd Tryz.func86 (pf := pf_slices_Equal_Word) (by kernel_rfl) fun ts K h => by
  obtain ⟨t0, t1, e0, h⟩ := as2_out h
  subst e0
  obtain ⟨a, e1, hq⟩ := arC_out (rd_l .word) h
  clear h
  subst e1
  have h := hq
  clear hq
  obtain ⟨b, e1, hq⟩ := arC_out (rd_l .word) h
  clear h
  subst e1
  have h := hq
  clear hq
  obtain ⟨hpre, h⟩ := chk_o h
  exact ⟨_, _, h, Nat.le_of_ble_eq_true (show Nat.ble 2 Tryz.f86.ntmps = true by kernel_rfl), _, run_slices_Equal_Word a b hpre⟩

def lb_slices_Equal_bool_0 : PC := .seq (.reg [.s (.bin 14 .lss (.t 13) (.t 12))]) (.seq (.cond (.t 14) (.skip) (.exit 0)) (.seq (.blk 1 (.seq (.reg [.s (.mv 15 (.t 13)), .s (.mv 5 (.t 15))]) (.seq (.rgd [] [.s (.mv 16 (.t 0)), .s (.mv 17 (.t 5)), .s (.ia 18 .bool (.t 16) (.t 17)), .s (.load 19 false 1 (.t 18)), .s (.mv 20 (.t 1)), .s (.mv 21 (.t 5)), .s (.ia 22 .bool (.t 20) (.t 21)), .s (.load 23 false 1 (.t 22)), .s (.eqs 24 false [.b] true (.t 19) (.t 23))] (.tk 0 (.tk 1 (.tk 2 (.tk 3 (.tk 4 (.tk 5 (.tk 6 (.tk 7 (.tk 8 (.done none))))))))))) (.cond (.t 24) (.seq (.reg [.s (.mv 4 (.k (.v (.c .ff))))]) (.ret)) (.skip))))) (.reg [.s (.bin 25 .add (.t 13) (.k (.v (.c (.int .i64 1))))), .s (.mv 13 (.t 25))])))
def pf_slices_Equal_bool : PF := ⟨[.t 4], .seq (.reg [.s (.mv 4 (.k (.v (.c .ff))))]) (.seq (.seq (.reg [.s (.mv 6 (.t 0)), .s (.len 7 false (.t 6)), .s (.mv 8 (.t 1)), .s (.len 9 false (.t 8)), .s (.bin 10 .neq (.t 7) (.t 9))]) (.cond (.t 10) (.seq (.reg [.s (.mv 4 (.k (.v (.c .ff))))]) (.ret)) (.skip))) (.seq (.seq (.reg [.s (.mv 11 (.t 0)), .s (.len 12 false (.t 11)), .s (.mv 13 (.k (.v (.c (.int .i64 0)))))]) (.blk 0 (.loop [0, 1, 12, 13] lb_slices_Equal_bool_0))) (.seq (.reg [.s (.mv 4 (.k (.v (.c .tt))))]) (.ret))))⟩
def c_slices_Equal_bool : Fun := ⟨87, [], fun ts K => as2 ts fun t0 t1 => arC (pL .bool) t0 fun a => arC (pL .bool) t1 fun b => chk (a.length ≤ 2147483647 ∧ b.length ≤ 2147483647) (K (tB (decide (a = b))) [])⟩
theorem run_slices_Equal_bool (a : List (FT.Ty .bool)) (b : List (FT.Ty .bool)) (hpre : a.length ≤ 2147483647 ∧ b.length ≤ 2147483647) : runK [] (a.length + 1) [] pf_slices_Equal_bool [tL false .bool a, tL false .bool b] fun r o => r = tB (decide (a = b)) ∧ o = [] := by
  obtain ⟨l1, l2⟩ := hpre
  conv => whnf
  refine sel_i (fun h => ?_) (fun h => ?_) <;> conv => whnf
  · rw [len_ne h]; exact ⟨rfl, rfl⟩
  have hl := len_eq h
  clear h
  refine loop (α := Nat) (fun i => ⟨[(0, .v (.c (.sl false .bool 0))), (1, .v (.c (.sl false .bool 1))), (12, .v (.c (.int .i64 (a.length : Int)))), (13, .v (.c (.int .i64 (i : Int))))], [(1, some (.flat false .bool none b)), (0, some (.flat false .bool none a))], nums.tail.tail, [], false, []⟩)
      (fun i => i ≤ a.length ∧ a.take i = b.take i) (fun i => a.length - i) (fun i R hI hR => ?_) 0 _ ⟨by simp, by simp⟩ (by omega)
  obtain ⟨hi, hx⟩ := hI
  conv => whnf
  repeat' (first | (refine sel_i (fun h => ?_) (fun h => ?_) <;> conv => whnf) | (refine chk_c ?_ ?_ <;> conv => whnf) | (refine And.intro ?_ rfl) | (refine And.intro ?_ ?_ <;> conv => whnf))
  all_goals (try simp only [Int.toNat_natCast, Bool.not_eq_true', Bool.not_eq_false', decide_eq_true_eq, decide_eq_false_iff_not] at *)
  all_goals first
    | (refine ⟨?_⟩; omega)
    | (rw [eq_no (z := FT.zero .bool) (i := i) (by simpa using h)]; done)
    | (rw [eq_end hl (by omega) hx]; done)
    | (rw [wrap_id (n := (i : Int) + 1) (by omega) (by omega)]; exact hR (i + 1) ⟨by omega, eq_yes (z := FT.zero .bool) hl (by omega) (by simpa using h) hx⟩ (by omega))
    | trace_state
theorem ok_slices_Equal_bool : FunOk Tryz.prog c_slices_Equal_bool := funOk (E := []) (envOk_nil) mixd Tryz.func87 (pf := pf_slices_Equal_bool) (by kernel_rfl) fun ts K h => by
  obtain ⟨t0, t1, e0, h⟩ := as2_out h
  subst e0
  obtain ⟨a, e1, hq⟩ := arC_out (rd_l .bool) h
  clear h
  subst e1
  have h := hq
  clear hq
  obtain ⟨b, e1, hq⟩ := arC_out (rd_l .bool) h
  clear h
  subst e1
  have h := hq
  clear hq
  obtain ⟨hpre, h⟩ := chk_o h
  exact ⟨_, _, h, Nat.le_of_ble_eq_true (show Nat.ble 2 Tryz.f87.ntmps = true by kernel_rfl), _, run_slices_Equal_bool a b hpre⟩

def pf_impl_Alike : PF := ⟨[.t 4], .seq (.reg [.s (.box 2 (.t 0)), .s (.box 3 (.t 1)), .s (.mv 4 (.k (.v (.c .ff))))]) (.seq (.reg [.s (.fa 5 (.t 2) 0), .s (.load 6 false 1 (.t 5)), .s (.fa 7 (.t 3) 0), .s (.load 8 false 1 (.t 7)), .s (.call (some 9) 86 [(.t 6), (.t 8)]), .s (.mv 10 (.t 9)), .g 10 true (some 11) (.fa 11 (.t 2) 1), .g 10 true (some 12) (.load 12 true 6 (.t 11)), .g 10 true (some 13) (.fa 13 (.t 3) 1), .g 10 true (some 14) (.load 14 true 6 (.t 13)), .g 10 true (some 15) (.eqs 15 true [.i, .b, .i, .i, .i, .i] false (.t 12) (.t 14)), .s (.pick 16 (.t 10) (.t 15) (.k (.v (.c .ff)))), .s (.mv 17 (.t 16)), .g 17 true (some 18) (.fa 18 (.t 2) 7), .g 17 true (some 19) (.fa 19 (.t 18) 0), .g 17 true (some 20) (.load 20 false 1 (.t 19)), .g 17 true (some 21) (.fa 21 (.t 3) 7), .g 17 true (some 22) (.fa 22 (.t 21) 0), .g 17 true (some 23) (.load 23 false 1 (.t 22)), .g 17 true (some 24) (.call (some 24) 86 [(.t 20), (.t 23)]), .s (.pick 25 (.t 17) (.t 24) (.k (.v (.c .ff)))), .s (.mv 26 (.t 25)), .g 26 true (some 27) (.fa 27 (.t 2) 7), .g 26 true (some 28) (.fa 28 (.t 27) 1), .g 26 true (some 29) (.load 29 false 1 (.t 28)), .g 26 true (some 30) (.fa 30 (.t 3) 7), .g 26 true (some 31) (.fa 31 (.t 30) 1), .g 26 true (some 32) (.load 32 false 1 (.t 31)), .g 26 true (some 33) (.call (some 33) 87 [(.t 29), (.t 32)]), .s (.pick 34 (.t 26) (.t 33) (.k (.v (.c .ff)))), .s (.mv 35 (.t 34)), .g 35 true (some 36) (.fa 36 (.t 2) 9), .g 35 true (some 37) (.load 37 false 1 (.t 36)), .g 35 true (some 38) (.fa 38 (.t 3) 9), .g 35 true (some 39) (.load 39 false 1 (.t 38)), .g 35 true (some 40) (.bin 40 .eql (.t 37) (.t 39)), .s (.pick 41 (.t 35) (.t 40) (.k (.v (.c .ff)))), .s (.mv 4 (.t 41))]) (.ret))⟩
def c_impl_Alike : Fun := ⟨21, [], fun ts K => as2 ts fun t0 t1 => arG pStateT t0 fun s => arG pStateT t1 fun t => chk (LState s 2147483647 ∧ LState t 2147483647) (K (tB (decide (s = t))) [])⟩
theorem run_impl_Alike (s : State) (t : State) (hpre : LState s 2147483647 ∧ LState t 2147483647) : runK [c_slices_Equal_Word, c_slices_Equal_bool] (0) [] pf_impl_Alike [tG (s.tc false []), tG (t.tc false [])] fun r o => r = tB (decide (s = t)) ∧ o = [] := by
  obtain ⟨⟨l1, l2, l3⟩, l4, l5, l6⟩ := hpre
  conv => whnf
  repeat' (first | (refine sel_i (fun h => ?_) (fun h => ?_) <;> conv => whnf) | (refine chk_c ?_ ?_ <;> conv => whnf) | (refine And.intro ?_ rfl) | (refine And.intro ?_ ?_ <;> conv => whnf))
  all_goals (try simp only [eqWd, etaKey, etaWord, etaMemory, etaState, decide_eq_true_eq, decide_eq_false_iff_not] at *)
  all_goals first
    | (refine ⟨?_⟩; exact ⟨by assumption, by assumption⟩)
    | (rw [eqStE (by assumption) (by assumption) (eqMm (by assumption) (by assumption))]; done)
    | (obtain ⟨s1, ⟨s2, s3, ⟨s4, s5, s6, s7⟩⟩, ⟨s8, s9⟩, s10⟩ := s; obtain ⟨t1, ⟨t2, t3, ⟨t4, t5, t6, t7⟩⟩, ⟨t8, t9⟩, t10⟩ := t; simp_all; done)
    | trace_state
theorem ok_impl_Alike : FunOk Tryz.prog c_impl_Alike := funOk (E := [c_slices_Equal_Word, c_slices_Equal_bool]) (envOk_cons ok_slices_Equal_Word (envOk_cons ok_slices_Equal_bool (envOk_nil))) mixd Tryz.func21 (pf := pf_impl_Alike) (by kernel_rfl) fun ts K h => by
  obtain ⟨t0, t1, e0, h⟩ := as2_out h
  subst e0
  obtain ⟨s, e1, hq⟩ := arG_out rd_state h
  clear h
  subst e1
  have h := hq
  clear hq
  obtain ⟨t, e1, hq⟩ := arG_out rd_state h
  clear h
  subst e1
  have h := hq
  clear hq
  obtain ⟨hpre, h⟩ := chk_o h
  exact ⟨_, _, h, Nat.le_of_ble_eq_true (show Nat.ble 2 Tryz.f21.ntmps = true by kernel_rfl), _, run_impl_Alike s t hpre⟩


theorem und_in {C : List Word} {w : Word} (h : Und C w) : undersW w C = true := undersW_iff.2 h
theorem all_in {a b : List Int} (h : ∀ c ∈ a, c ∈ b) : a.all (fun x => b.any (fun v => v == x)) = true := by
  rw [List.all_eq_true]
  intro x hx
  rw [List.any_eq_true]
  exact ⟨x, h x hx, by simp⟩
theorem holdE (s : State) : [] ++ s.regs ++ [s.pc] = hold s := rfl
theorem inGo_touch {C : List Word} {l : List Inst} {c : Nat} : ∀ {k : Nat} {s : State}, Inv C s → ¬ s.mem.words.getD c (FT.zero .word) = (inGo l k s).1.mem.words.getD c (FT.zero .word) → c < 24 ∧ coverP C 2 c = true
  | 0, s, _, h => absurd rfl h
  | k + 1, s, hi, h => by
    unfold inGo at h
    split at h
    · by_cases e : (stepS l s).mem.words.getD c (FT.zero .word) = s.mem.words.getD c (FT.zero .word)
      · exact inGo_touch (hi.step (l := l)) (by rw [e]; exact h)
      · exact hi.cell e
    · exact absurd rfl h
theorem inOrder_touch {C : List Word} {l : List Inst} {n : Int} {s : State} (hi : Inv C s) {c : Nat} (h : ¬ s.mem.words.getD c (FT.zero .word) = (inOrder l s n).1.mem.words.getD c (FT.zero .word)) : c < 24 ∧ coverP C 2 c = true := by
  unfold inOrder at h
  rw [if_neg (by rw [hi.ok]; decide)] at h
  exact inGo_touch hi h
end Go.Pi
