/- Contracts of functions, each out of its run by PI. No conditions. -/
import Derived.Test.YtkiokbkbgjomeaaGreatC4
namespace Go.Pi
open Go.Proofs
set_option linter.unusedVariables false
set_option linter.unusedSimpArgs false
set_option maxRecDepth 100000
attribute [local irreducible] iterN
theorem kMem {K : Tree → List Tree → Prop} {o : List Tree} {P : Mem → Prop} (hK : ∀ w : Mem, P w → K (tG (w.tc true [])) o) (a : List Word) (b : List Bool) (h : P ⟨a, b⟩) : K (.v (.g [.ow .word a, .ow .bool b])) o := hK ⟨a, b⟩ h
def cuC (d : Cur) (k : Nat) : List Cell := [.sl false (.int .u8) k, .int .i64 d.i, .int .i64 d.h]
theorem memoryOk_setW {m : Mem} (h : memoryOk m = true) {i : Nat} {w : Word} (hw : wordOk w = true) : memoryOk ⟨m.words.set i w, m.gone⟩ = true := by
  obtain ⟨h1, h2, h3⟩ := memoryOk_iff.1 h
  refine memoryOk_iff.2 ⟨by simp [h1], h2, fun v hv => ?_⟩
  rcases mem_set hv with q | q
  · exact h3 v q
  · rw [q]; exact hw
theorem memoryOk_setG {m : Mem} (h : memoryOk m = true) {i : Nat} {b : Bool} : memoryOk ⟨m.words, m.gone.set i b⟩ = true := by
  obtain ⟨h1, h2, h3⟩ := memoryOk_iff.1 h
  exact memoryOk_iff.2 ⟨h1, by simp [h2], h3⟩
theorem memNew_ok : memoryOk memNew = true := by decide +kernel
theorem stateNew_ok : stateOk stateNew = true := by decide +kernel
theorem lMem_of {m : Mem} (h : memoryOk m = true) : LMem m 24 := by
  obtain ⟨h1, h2, h3⟩ := memoryOk_iff.1 h
  exact ⟨by omega, by omega⟩

def lb_spec_l8DrawRight_0 : PC := .seq (.seq (.reg [.s (.mv 7 (.t 4)), .s (.mv 8 (.t 0)), .s (.call (some 9) 99 [(.t 8), (.k (.v (.c (.int .i64 12))))]), .s (.bin 10 .lss (.t 7) (.t 9))]) (.cond (.t 10) (.skip) (.exit 0))) (.seq (.blk 1 (.rgd [0] [.s (.fa 13 (.t 3) 0), .s (.load 14 false 1 (.t 13)), .s (.mv 15 (.t 0)), .s (.call (some 16) 99 [(.t 15), (.k (.v (.c (.int .i64 24))))]), .s (.mv 17 (.t 0)), .s (.call (some 18) 67 [(.t 17)]), .s (.ia 19 .word (.t 14) (.t 16)), .s (.store 6 (.t 19) (.t 18))] (.tk 0 (.tk 1 (.tk 2 (.tk 4 (.one 3 false (.one 5 false (.tk 6 (.one 7 true (.done none))))))))))) (.reg [.s (.mv 11 (.t 4)), .s (.bin 12 .add (.t 11) (.k (.v (.c (.int .i64 1))))), .s (.mv 4 (.t 12))]))
def lb_spec_l8DrawRight_1 : PC := .seq (.seq (.reg [.s (.mv 20 (.t 5)), .s (.mv 21 (.t 0)), .s (.call (some 22) 99 [(.t 21), (.k (.v (.c (.int .i64 4))))]), .s (.bin 23 .lss (.t 20) (.t 22))]) (.cond (.t 23) (.skip) (.exit 2))) (.seq (.blk 3 (.rgd [0] [.s (.fa 26 (.t 3) 1), .s (.load 27 false 1 (.t 26)), .s (.mv 28 (.t 0)), .s (.call (some 29) 99 [(.t 28), (.k (.v (.c (.int .i64 24))))]), .s (.ia 30 .bool (.t 27) (.t 29)), .s (.store 1 (.t 30) (.k (.v (.c .tt))))] (.tk 0 (.tk 1 (.tk 2 (.one 3 false (.tk 4 (.one 5 true (.done none))))))))) (.reg [.s (.mv 24 (.t 5)), .s (.bin 25 .add (.t 24) (.k (.v (.c (.int .i64 1))))), .s (.mv 5 (.t 25))]))
def pf_spec_l8DrawRight : PF := ⟨[.c 2 true 2], .seq (.reg [.s (.alloc 2 [.nils .word, .nils .bool])]) (.seq (.reg [.s (.call (some 6) 166 []), .s (.alloc 3 [.nils .word, .nils .bool]), .s (.store 2 (.t 3) (.t 6))]) (.seq (.seq (.reg [.s (.mv 4 (.k (.v (.c (.int .i64 0)))))]) (.blk 0 (.loop [0, 2, 3, 4] lb_spec_l8DrawRight_0))) (.seq (.seq (.reg [.s (.mv 5 (.k (.v (.c (.int .i64 0)))))]) (.blk 2 (.loop [0, 2, 3, 5] lb_spec_l8DrawRight_1))) (.seq (.reg [.s (.load 31 true 2 (.t 3)), .s (.store 2 (.t 2) (.t 31))]) (.ret)))))⟩
def c_spec_l8DrawRight : Fun := ⟨140, [true], fun ts K => as1 ts fun t0 => arQ pCurT t0 fun c => chk (CurOk c) (∀ (m : Mem) (d : Cur), (memoryOk m = true ∧ CurOk d) → K (tG (m.tc true [])) ([curOut d]))⟩
theorem run_spec_l8DrawRight (c : Cur) (hpre : CurOk c) {K : Tree → List Tree → Prop} (hK : ∀ (m : Mem) (d : Cur), (memoryOk m = true ∧ CurOk d) → K (tG (m.tc true [])) ([curOut d])) : runK [c_spec_l3DrawRight, c_spec_l1Below, c_spec_MemoryNew] (20) [true] pf_spec_l8DrawRight [.v (.ptr true 0 (c.tc []))] K := by
  conv => whnf
  refine loop (α := Nat × Cur × Mem) (fun q => ⟨[(0, .v (.c (.ptr 0 0))), (2, .v (.c (.ptr 2 0))), (3, .v (.c (.ptr 3 0))), (4, .v (.c (.int .i64 (q.1 : Int))))],
        [(5, some (.flat true .bool none q.2.2.gone)), (4, some (.flat true .word none q.2.2.words)), (3, some (.box true [.sl false .word 4, .sl false .bool 5])), (2, some (.box true [.nils .word, .nils .bool])), (1, some (.flat false (.int .u8) none q.2.1.b)), (0, some (.box true (cuC q.2.1 1)))], nums.tail.tail.tail.tail.tail.tail, [.v (.c (.ptr 0 0))], false, []⟩)
    (fun q => q.1 ≤ 12 ∧ CurOk q.2.1 ∧ memoryOk q.2.2 = true) (fun q => 12 - q.1) (fun q R hI hR => ?_) (0, c, memNew) _ ⟨by simp, hpre, memNew_ok⟩ (by simp)
  obtain ⟨i, e, m⟩ := q
  obtain ⟨hi, he, hm⟩ := hI
  dsimp only at hi he hm
  dsimp only
  have hl := memoryOk_iff.1 hm
  conv => whnf
  repeat' (first | (refine sel_i (fun h => ?_) (fun h => ?_) <;> conv => whnf) | (refine chk_c ?_ ?_ <;> conv => whnf) | (refine And.intro ?_ rfl) | (refine And.intro ?_ ?_ <;> conv => whnf) | (intro x y z d hd; (try have g1 := And.left hd); (try have g2 := And.right hd); (try have g3 := And.left (And.right hd)); (try have g4 := And.right (And.right hd)); conv => whnf) | (intro x y d hd; (try have g1 := And.left hd); (try have g2 := And.right hd); (try have g3 := And.left (And.right hd)); (try have g4 := And.right (And.right hd)); conv => whnf) | (intro x d hd; (try have g1 := And.left hd); (try have g2 := And.right hd); (try have g3 := And.left (And.right hd)); (try have g4 := And.right (And.right hd)); conv => whnf) | (intro d hd; (try have g1 := And.left hd); (try have g2 := And.right hd); (try have g3 := And.left (And.right hd)); (try have g4 := And.right (And.right hd)); conv => whnf))
  all_goals first
    | (refine ⟨?_⟩; exact he)
    | (refine ⟨?_⟩; exact hd.2)
    | (refine ⟨?_⟩; simp at *; omega)
    | (rw [wrap_id (n := (i : Int) + 1) (by omega) (by omega)]; exact hR (i + 1, _, ⟨_, _⟩) ⟨by simp at h ⊢; omega, by exact hd.2, memoryOk_setW hm hd.1⟩ (by simp at h ⊢; omega))
    | skip
  clear hR he hl hi
  refine loop (α := Nat × Cur × Mem) (fun q => ⟨[(0, .v (.c (.ptr 0 0))), (2, .v (.c (.ptr 2 0))), (3, .v (.c (.ptr 3 0))), (5, .v (.c (.int .i64 (q.1 : Int))))],
        [(5, some (.flat true .bool none q.2.2.gone)), (4, some (.flat true .word none q.2.2.words)), (3, some (.box true [.sl false .word 4, .sl false .bool 5])), (2, some (.box true [.nils .word, .nils .bool])), (1, some (.flat false (.int .u8) none q.2.1.b)), (0, some (.box true (cuC q.2.1 1)))], nums.tail.tail.tail.tail.tail.tail, [.v (.c (.ptr 0 0))], false, []⟩)
    (fun q => q.1 ≤ 12 ∧ CurOk q.2.1 ∧ memoryOk q.2.2 = true) (fun q => 12 - q.1) (fun q R hI hR => ?_) (0, d, m) _ ⟨by simp, hd.2, hm⟩ (by simp)
  obtain ⟨i, e, m⟩ := q
  obtain ⟨hi, he, hm⟩ := hI
  dsimp only at hi he hm
  dsimp only
  have hl := memoryOk_iff.1 hm
  conv => whnf
  repeat' (first | (refine sel_i (fun h => ?_) (fun h => ?_) <;> conv => whnf) | (refine chk_c ?_ ?_ <;> conv => whnf) | (refine And.intro ?_ rfl) | (refine And.intro ?_ ?_ <;> conv => whnf) | (intro x y z d hd; (try have g1 := And.left hd); (try have g2 := And.right hd); (try have g3 := And.left (And.right hd)); (try have g4 := And.right (And.right hd)); conv => whnf) | (intro x y d hd; (try have g1 := And.left hd); (try have g2 := And.right hd); (try have g3 := And.left (And.right hd)); (try have g4 := And.right (And.right hd)); conv => whnf) | (intro x d hd; (try have g1 := And.left hd); (try have g2 := And.right hd); (try have g3 := And.left (And.right hd)); (try have g4 := And.right (And.right hd)); conv => whnf) | (intro d hd; (try have g1 := And.left hd); (try have g2 := And.right hd); (try have g3 := And.left (And.right hd)); (try have g4 := And.right (And.right hd)); conv => whnf))
  all_goals first
    | (refine ⟨?_⟩; exact he)
    | (refine ⟨?_⟩; exact hd.2)
    | (refine ⟨?_⟩; simp at *; omega)
    | (rw [wrap_id (n := (i : Int) + 1) (by omega) (by omega)]; have h := of_decide_eq_true h; exact hR (i + 1, d, ⟨m.words, m.gone.set x.toNat true⟩) ⟨by dsimp only; omega, hd.2, memoryOk_setG hm⟩ (by dsimp only; omega))
    | (exact kMem (fun m hm => hK m _ hm) _ _ ⟨hm, hd.2⟩)
    | trace_state
theorem ok_spec_l8DrawRight : FunOk Tryz.prog c_spec_l8DrawRight := funOkR (E := [c_spec_l3DrawRight, c_spec_l1Below, c_spec_MemoryNew]) (envOk_cons ok_spec_l3DrawRight (envOk_cons ok_spec_l1Below (envOk_cons ok_spec_MemoryNew (envOk_nil)))) mixd Tryz.func140 (pf := pf_spec_l8DrawRight) (by kernel_rfl) fun ts K h => by
  obtain ⟨t0, e0, h⟩ := as1_out h
  subst e0
  obtain ⟨c, e1, hq⟩ := arQ_out rd_cur h
  clear h
  subst e1
  have h := hq
  clear hq
  obtain ⟨hpre, h⟩ := chk_o h
  exact ⟨Nat.le_of_ble_eq_true (show Nat.ble 1 Tryz.f140.ntmps = true by kernel_rfl), _, run_spec_l8DrawRight c hpre h⟩

def pf_spec_l8Draw : PF := ⟨[.c 2 true 2], .seq (.reg [.s (.alloc 2 [.nils .word, .nils .bool])]) (.seq (.reg [.s (.mv 4 (.t 0)), .s (.call (some 5) 140 [(.t 4)]), .s (.alloc 3 [.nils .word, .nils .bool]), .s (.store 2 (.t 3) (.t 5))]) (.seq (.seq (.reg [.s (.mv 6 (.t 0)), .s (.call (some 7) 99 [(.t 6), (.k (.v (.c (.int .i64 15))))])]) (.blk 0 (.seq (.reg [.s (.bin 9 .eql (.t 7) (.k (.v (.c (.int .i64 0))))), .s (.mv 8 (.t 9))]) (.cond (.t 8) (.reg [.s (.fa 10 (.t 3) 0), .s (.load 11 false 1 (.t 10)), .s (.slc 12 .word (.t 11) (some (.k (.v (.c (.int .i64 1))))) none), .s (.fa 13 (.t 3) 0), .s (.store 1 (.t 13) (.t 12))]) (.seq (.reg [.s (.bin 15 .eql (.t 7) (.k (.v (.c (.int .i64 1))))), .s (.mv 14 (.t 15))]) (.cond (.t 14) (.rgd [0] [.s (.fa 16 (.t 3) 0), .s (.load 17 false 1 (.t 16)), .s (.mv 18 (.t 0)), .s (.call (some 19) 99 [(.t 18), (.k (.v (.c (.int .i64 24))))]), .s (.mv 20 (.t 0)), .s (.call (some 21) 159 [(.t 20)]), .s (.ia 22 .word (.t 17) (.t 19)), .s (.store 6 (.t 22) (.t 21))] (.tk 0 (.tk 1 (.tk 2 (.tk 4 (.one 3 false (.one 5 false (.tk 6 (.one 7 true (.done none)))))))))) (.seq (.reg [.s (.bin 24 .eql (.t 7) (.k (.v (.c (.int .i64 2))))), .s (.mv 23 (.t 24))]) (.cond (.t 23) (.reg [.s (.fa 25 (.t 3) 1), .s (.store 1 (.t 25) (.k (.v (.c (.nils .bool)))))]) (.skip))))))))) (.seq (.reg [.s (.load 26 true 2 (.t 3)), .s (.store 2 (.t 2) (.t 26))]) (.ret))))⟩
def c_spec_l8Draw : Fun := ⟨160, [true], fun ts K => as1 ts fun t0 => arQ pCurT t0 fun c => chk (CurOk c) (∀ (m : Mem) (d : Cur), (LMem m 24 ∧ CurOk d) → K (tG (m.tc true [])) ([curOut d]))⟩
theorem run_spec_l8Draw (c : Cur) (hpre : CurOk c) {K : Tree → List Tree → Prop} (hK : ∀ (m : Mem) (d : Cur), (LMem m 24 ∧ CurOk d) → K (tG (m.tc true [])) ([curOut d])) : runK [c_spec_l1Below, c_spec_l8DrawRight, c_spec_l3Draw] (0) [true] pf_spec_l8Draw [.v (.ptr true 0 (c.tc []))] K := by
  conv => whnf
  repeat' (first | (refine sel_i (fun h => ?_) (fun h => ?_) <;> conv => whnf) | (refine chk_c ?_ ?_ <;> conv => whnf) | (refine And.intro ?_ rfl) | (refine And.intro ?_ ?_ <;> conv => whnf) | (intro x y z d hd; (try have g1 := And.left hd); (try have g2 := And.right hd); (try have g3 := And.left (And.right hd)); (try have g4 := And.right (And.right hd)); conv => whnf) | (intro x y d hd; (try have g1 := And.left hd); (try have g2 := And.right hd); (try have g3 := And.left (And.right hd)); (try have g4 := And.right (And.right hd)); conv => whnf) | (intro x d hd; (try have g1 := And.left hd); (try have g2 := And.right hd); (try have g3 := And.left (And.right hd)); (try have g4 := And.right (And.right hd)); conv => whnf) | (intro d hd; (try have g1 := And.left hd); (try have g2 := And.right hd); (try have g3 := And.left (And.right hd)); (try have g4 := And.right (And.right hd)); conv => whnf))
  all_goals first
    | (refine ⟨?_⟩; exact hd)
    | (refine ⟨?_⟩; exact hd.2)
    | (refine ⟨?_⟩; exact hd.2.2)
    | (refine ⟨?_⟩; exact hpre)
    | (refine ⟨?_⟩; exact ⟨hd, by simp⟩)
    | (refine ⟨?_⟩; exact ⟨hd.2, by simp⟩)
    | (refine ⟨?_⟩; decide)
    | (refine ⟨?_⟩; rfl)
    | (refine ⟨?_⟩; have := memoryOk_iff.1 (by assumption); simp at *; omega)
    | (exact kMem (fun m hm => hK m _ hm) _ _ ⟨lMem_of (by assumption), hd.2⟩)
    | (have hl := lMem_of (by assumption); exact kMem (fun m hm => hK m _ hm) _ _ ⟨⟨hl.1, Nat.zero_le _⟩, hd.2⟩)
    | (have hl := memoryOk_iff.1 (by assumption); exact kMem (fun m hm => hK m _ hm) _ _ ⟨⟨by simp [win]; omega, by dsimp only; omega⟩, hd.2⟩)
    | (have hl := memoryOk_iff.1 (by assumption); exact kMem (fun m hm => hK m _ hm) _ _ ⟨⟨by simp; omega, by dsimp only; omega⟩, hd⟩)
    | trace_state
theorem ok_spec_l8Draw : FunOk Tryz.prog c_spec_l8Draw := funOkR (E := [c_spec_l1Below, c_spec_l8DrawRight, c_spec_l3Draw]) (envOk_cons ok_spec_l1Below (envOk_cons ok_spec_l8DrawRight (envOk_cons ok_spec_l3Draw (envOk_nil)))) mixd Tryz.func160 (pf := pf_spec_l8Draw) (by kernel_rfl) fun ts K h => by
  obtain ⟨t0, e0, h⟩ := as1_out h
  subst e0
  obtain ⟨c, e1, hq⟩ := arQ_out rd_cur h
  clear h
  subst e1
  have h := hq
  clear hq
  obtain ⟨hpre, h⟩ := chk_o h
  exact ⟨Nat.le_of_ble_eq_true (show Nat.ble 1 Tryz.f160.ntmps = true by kernel_rfl), _, run_spec_l8Draw c hpre h⟩


theorem U8s.app {a b : List Int} (ha : U8s a) (hb : U8s b) : U8s (a ++ b) := fun x hx => by
  rcases List.mem_append.1 hx with q | q
  · exact ha x q
  · exact hb x q
theorem U8s.put {a : List Int} (ha : U8s a) {i : Nat} {v : Int} (hv : 0 ≤ v ∧ v ≤ 255) : U8s (a.set i v) := fun x hx => by
  rcases mem_set hx with q | q
  · exact ha x q
  · rw [q]; exact hv

theorem eq_end {α : Type} [DecidableEq α] {xs ys : List α} {i : Nat} (hl : xs.length = ys.length) (h : xs.length ≤ i) (he : xs.take i = ys.take i) : decide (xs = ys) = true := by
  rw [List.take_of_length_le h, List.take_of_length_le (by omega)] at he
  exact decide_eq_true he
theorem eq_no {α : Type} [DecidableEq α] {xs ys : List α} {i : Nat} {z : α} (hne : ¬ xs.getD i z = ys.getD i z) : decide (xs = ys) = false :=
  decide_eq_false fun e => hne (by rw [e])
theorem eq_yes {α : Type} {xs ys : List α} {i : Nat} {z : α} (hl : xs.length = ys.length) (h : i < xs.length) (hq : xs.getD i z = ys.getD i z) (he : xs.take i = ys.take i) : xs.take (i + 1) = ys.take (i + 1) := by
  have h2 : i < ys.length := by omega
  rw [List.take_add_one, List.take_add_one, he, List.getElem?_eq_getElem h, List.getElem?_eq_getElem h2]
  rw [List.getD_eq_getElem?_getD, List.getD_eq_getElem?_getD, List.getElem?_eq_getElem h, List.getElem?_eq_getElem h2] at hq
  simp only [Option.getD_some] at hq
  rw [hq]
theorem len_ne {α : Type} [DecidableEq α] {xs ys : List α} (h : ((xs.length : Int) != (ys.length : Int)) = true) : decide (xs = ys) = false :=
  decide_eq_false fun e => by rw [e] at h; simp at h
theorem len_eq {α : Type} {xs ys : List α} (h : ((xs.length : Int) != (ys.length : Int)) = false) : xs.length = ys.length := by
  simp at h; omega
theorem eqWd {a b : Word} : (a.n == b.n && (a.is == b.is && (a.key.base == b.key.base && (a.key.top == b.key.top && (a.key.perms == b.key.perms && a.key.sealed == b.key.sealed))))) = decide (a = b) := by
  obtain ⟨a1, a2, a3, a4, a5, a6⟩ := a
  obtain ⟨b1, b2, b3, b4, b5, b6⟩ := b
  rw [Bool.eq_iff_iff]
  simp
theorem eqStE {s t : State} (h1 : s.regs = t.regs) (h2 : s.pc = t.pc) (h3 : s.mem = t.mem) : (s.trap == t.trap) = decide (s = t) := by
  obtain ⟨a1, a2, a3, a4⟩ := s
  obtain ⟨b1, b2, b3, b4⟩ := t
  dsimp only at h1 h2 h3
  rw [Bool.eq_iff_iff]; simp [h1, h2, h3]
theorem eqSdE {s t : Side} (h1 : s.regs = t.regs) (h2 : s.pc = t.pc) : (s.trap == t.trap) = decide (s = t) := by
  obtain ⟨a1, a2, a4⟩ := s
  obtain ⟨b1, b2, b4⟩ := t
  dsimp only at h1 h2
  rw [Bool.eq_iff_iff]; simp [h1, h2]
def lb_laws_sameWords_0 : PC := .seq (.seq (.reg [.s (.mv 11 (.t 5)), .s (.mv 12 (.t 0)), .s (.len 13 false (.t 12)), .s (.bin 14 .lss (.t 11) (.t 13))]) (.cond (.t 14) (.skip) (.exit 0))) (.seq (.blk 1 (.seq (.rgd [] [.s (.mv 17 (.t 0)), .s (.mv 18 (.t 5)), .s (.ia 19 .word (.t 17) (.t 18)), .s (.load 20 true 6 (.t 19)), .s (.mv 21 (.t 1)), .s (.mv 22 (.t 5)), .s (.ia 23 .word (.t 21) (.t 22)), .s (.load 24 true 6 (.t 23)), .s (.eqs 25 true [.i, .b, .i, .i, .i, .i] true (.t 20) (.t 24))] (.tk 0 (.tk 1 (.tk 2 (.tk 3 (.tk 4 (.tk 5 (.tk 6 (.tk 7 (.tk 8 (.done none))))))))))) (.cond (.t 25) (.seq (.reg [.s (.mv 4 (.k (.v (.c .ff))))]) (.ret)) (.skip)))) (.reg [.s (.mv 15 (.t 5)), .s (.bin 16 .add (.t 15) (.k (.v (.c (.int .i64 1))))), .s (.mv 5 (.t 16))]))
def pf_laws_sameWords : PF := ⟨[.t 4], .seq (.reg [.s (.mv 4 (.k (.v (.c .ff))))]) (.seq (.seq (.reg [.s (.mv 6 (.t 0)), .s (.len 7 false (.t 6)), .s (.mv 8 (.t 1)), .s (.len 9 false (.t 8)), .s (.bin 10 .neq (.t 7) (.t 9))]) (.cond (.t 10) (.seq (.reg [.s (.mv 4 (.k (.v (.c .ff))))]) (.ret)) (.skip))) (.seq (.seq (.reg [.s (.mv 5 (.k (.v (.c (.int .i64 0)))))]) (.blk 0 (.loop [0, 1, 5] lb_laws_sameWords_0))) (.seq (.reg [.s (.mv 4 (.k (.v (.c .tt))))]) (.ret))))⟩
def c_laws_sameWords : Fun := ⟨51, [], fun ts K => as2 ts fun t0 t1 => arC (pL .word) t0 fun a => arC (pL .word) t1 fun b => chk (a.length ≤ 2147483647 ∧ b.length ≤ 2147483647) (K (tB (decide (a = b))) [])⟩
theorem run_laws_sameWords (a : List (FT.Ty .word)) (b : List (FT.Ty .word)) (hpre : a.length ≤ 2147483647 ∧ b.length ≤ 2147483647) : runK [] (a.length + 1) [] pf_laws_sameWords [tL false .word a, tL false .word b] fun r o => r = tB (decide (a = b)) ∧ o = [] := by
  obtain ⟨l1, l2⟩ := hpre
  conv => whnf
  refine sel_i (fun h => ?_) (fun h => ?_) <;> conv => whnf
  · rw [len_ne h]; exact ⟨rfl, rfl⟩
  have hl := len_eq h
  clear h
  refine loop (α := Nat) (fun i => ⟨[(0, .v (.c (.sl false .word 0))), (1, .v (.c (.sl false .word 1))), (5, .v (.c (.int .i64 (i : Int))))], [(1, some (.flat false .word none b)), (0, some (.flat false .word none a))], nums.tail.tail, [], false, []⟩)
      (fun i => i ≤ a.length ∧ a.take i = b.take i) (fun i => a.length - i) (fun i R hI hR => ?_) 0 _ ⟨by simp, by simp⟩ (by omega)
  obtain ⟨hi, hx⟩ := hI
  conv => whnf
  repeat' (first | (refine sel_i (fun h => ?_) (fun h => ?_) <;> conv => whnf) | (refine chk_c ?_ ?_ <;> conv => whnf) | (refine And.intro ?_ rfl) | (refine And.intro ?_ ?_ <;> conv => whnf))
  all_goals (try simp only [eqWd, etaKey, etaWord, Int.toNat_natCast, Bool.not_eq_true', Bool.not_eq_false', decide_eq_true_eq, decide_eq_false_iff_not] at *)
  all_goals first
    | (refine ⟨?_⟩; omega)
    | (rw [eq_no (z := FT.zero .word) (by assumption)]; done)
    | (rw [eq_end hl (by omega) hx]; done)
    | (rw [wrap_id (n := (i : Int) + 1) (by omega) (by omega)]; exact hR (i + 1) ⟨by omega, eq_yes (z := FT.zero .word) hl (by omega) (by assumption) hx⟩ (by omega))
    | trace_state
theorem ok_laws_sameWords : FunOk Tryz.prog c_laws_sameWords := funOk (E := []) (envOk_nil) mixd Tryz.func51 (pf := pf_laws_sameWords) (by kernel_rfl) fun ts K h => by
  obtain ⟨t0, t1, e0, h⟩ := as2_out h
  subst e0
  obtain ⟨a, e1, hq⟩ := arC_out (rd_l .word) h
  clear h
  subst e1
  have h := hq
  clear hq
  obtain ⟨b, e1, hq⟩ := arC_out (rd_l .word) h
  clear h
  subst e1
  have h := hq
  clear hq
  obtain ⟨hpre, h⟩ := chk_o h
  exact ⟨_, _, h, Nat.le_of_ble_eq_true (show Nat.ble 2 Tryz.f51.ntmps = true by kernel_rfl), _, run_laws_sameWords a b hpre⟩

def lb_laws_sameMem_0 : PC := .seq (.seq (.reg [.s (.mv 21 (.t 5)), .s (.fa 22 (.t 2) 1), .s (.load 23 false 1 (.t 22)), .s (.len 24 false (.t 23)), .s (.bin 25 .lss (.t 21) (.t 24))]) (.cond (.t 25) (.skip) (.exit 0))) (.seq (.blk 1 (.seq (.rgd [] [.s (.fa 28 (.t 2) 1), .s (.load 29 false 1 (.t 28)), .s (.mv 30 (.t 5)), .s (.ia 31 .bool (.t 29) (.t 30)), .s (.load 32 false 1 (.t 31)), .s (.fa 33 (.t 3) 1), .s (.load 34 false 1 (.t 33)), .s (.mv 35 (.t 5)), .s (.ia 36 .bool (.t 34) (.t 35)), .s (.load 37 false 1 (.t 36)), .s (.eqs 38 false [.b] true (.t 32) (.t 37))] (.tk 0 (.tk 1 (.tk 2 (.tk 3 (.tk 4 (.tk 5 (.tk 6 (.tk 7 (.tk 8 (.tk 9 (.tk 10 (.done none))))))))))))) (.cond (.t 38) (.seq (.reg [.s (.mv 4 (.k (.v (.c .ff))))]) (.ret)) (.skip)))) (.reg [.s (.mv 26 (.t 5)), .s (.bin 27 .add (.t 26) (.k (.v (.c (.int .i64 1))))), .s (.mv 5 (.t 27))]))
def pf_laws_sameMem : PF := ⟨[.t 4], .seq (.reg [.s (.box 2 (.t 0)), .s (.box 3 (.t 1)), .s (.mv 4 (.k (.v (.c .ff))))]) (.seq (.seq (.reg [.s (.fa 6 (.t 2) 0), .s (.load 7 false 1 (.t 6)), .s (.fa 8 (.t 3) 0), .s (.load 9 false 1 (.t 8)), .s (.call (some 10) 51 [(.t 7), (.t 9)]), .s (.bnot 11 (.t 10)), .s (.mv 12 (.t 11)), .g 12 false (some 13) (.fa 13 (.t 2) 1), .g 12 false (some 14) (.load 14 false 1 (.t 13)), .g 12 false (some 15) (.len 15 false (.t 14)), .g 12 false (some 16) (.fa 16 (.t 3) 1), .g 12 false (some 17) (.load 17 false 1 (.t 16)), .g 12 false (some 18) (.len 18 false (.t 17)), .g 12 false (some 19) (.bin 19 .neq (.t 15) (.t 18)), .s (.pick 20 (.t 12) (.k (.v (.c .tt))) (.t 19))]) (.cond (.t 20) (.seq (.reg [.s (.mv 4 (.k (.v (.c .ff))))]) (.ret)) (.skip))) (.seq (.seq (.reg [.s (.mv 5 (.k (.v (.c (.int .i64 0)))))]) (.blk 0 (.loop [2, 3, 5] lb_laws_sameMem_0))) (.seq (.reg [.s (.mv 4 (.k (.v (.c .tt))))]) (.ret))))⟩
def c_laws_sameMem : Fun := ⟨104, [], fun ts K => as2 ts fun t0 t1 => arG pMemT t0 fun a => arG pMemT t1 fun b => chk (LMem a 2147483647 ∧ LMem b 2147483647) (K (tB (decide (a = b))) [])⟩
theorem run_laws_sameMem (a : Mem) (b : Mem) (hpre : LMem a 2147483647 ∧ LMem b 2147483647) : runK [c_laws_sameWords] (a.gone.length + 1) [] pf_laws_sameMem [tG (a.tc false []), tG (b.tc false [])] fun r o => r = tB (decide (a = b)) ∧ o = [] := by
  obtain ⟨⟨l1, l2⟩, l3, l4⟩ := hpre
  obtain ⟨a1, a2⟩ := a
  obtain ⟨b1, b2⟩ := b
  dsimp only at l1 l2 l3 l4
  conv => whnf
  refine chk_i ⟨l1, l3⟩ ?_
  conv => whnf
  refine sel_i (fun h => ?_) (fun h => ?_) <;> conv => whnf
  · refine ⟨?_, rfl⟩; simp at h; simp [h]
  refine sel_i (fun h2 => ?_) (fun h2 => ?_) <;> conv => whnf
  · refine ⟨?_, rfl⟩; have := of_decide_eq_false (len_ne h2); simp [this]
  have hl := len_eq h2
  have hw : a1 = b1 := by simpa using h
  subst hw
  clear h h2
  refine loop (α := Nat) (fun i => ⟨[(2, .v (.c (.ptr 0 0))), (3, .v (.c (.ptr 3 0))), (5, .v (.c (.int .i64 (i : Int))))],
        [(5, some (.flat false .bool none b2)), (4, some (.flat false .word none a1)), (3, some (.box true [.sl false .word 4, .sl false .bool 5])),
          (2, some (.flat false .bool none a2)), (1, some (.flat false .word none a1)), (0, some (.box true [.sl false .word 1, .sl false .bool 2]))], nums.tail.tail.tail.tail.tail.tail, [], false, []⟩)
      (fun i => i ≤ a2.length ∧ a2.take i = b2.take i) (fun i => a2.length - i) (fun i R hI hR => ?_) 0 _ ⟨by simp, by simp⟩ (by show a2.length - 0 < a2.length + 1; omega)
  obtain ⟨hi, hx⟩ := hI
  conv => whnf
  repeat' (first | (refine sel_i (fun h => ?_) (fun h => ?_) <;> conv => whnf) | (refine chk_c ?_ ?_ <;> conv => whnf) | (refine And.intro ?_ rfl) | (refine And.intro ?_ ?_ <;> conv => whnf))
  all_goals (try simp only [Int.toNat_natCast, Bool.not_eq_true', Bool.not_eq_false', decide_eq_true_eq, decide_eq_false_iff_not] at *)
  all_goals first
    | (refine ⟨?_⟩; omega)
    | (have e := of_decide_eq_false (eq_no (xs := a2) (ys := b2) (z := FT.zero .bool) (i := i) (by simpa using h)); simp [e]; done)
    | (have e := of_decide_eq_true (eq_end hl (by omega) hx); simp [e]; done)
    | (rw [wrap_id (n := (i : Int) + 1) (by omega) (by omega)]; exact hR (i + 1) ⟨by omega, eq_yes (z := FT.zero .bool) hl (by omega) (by simpa using h) hx⟩ (by omega))
    | trace_state
theorem ok_laws_sameMem : FunOk Tryz.prog c_laws_sameMem := funOk (E := [c_laws_sameWords]) (envOk_cons ok_laws_sameWords (envOk_nil)) mixd Tryz.func104 (pf := pf_laws_sameMem) (by kernel_rfl) fun ts K h => by
  obtain ⟨t0, t1, e0, h⟩ := as2_out h
  subst e0
  obtain ⟨a, e1, hq⟩ := arG_out rd_mem h
  clear h
  subst e1
  have h := hq
  clear hq
  obtain ⟨b, e1, hq⟩ := arG_out rd_mem h
  clear h
  subst e1
  have h := hq
  clear hq
  obtain ⟨hpre, h⟩ := chk_o h
  exact ⟨_, _, h, Nat.le_of_ble_eq_true (show Nat.ble 2 Tryz.f104.ntmps = true by kernel_rfl), _, run_laws_sameMem a b hpre⟩

def pf_laws_sameState : PF := ⟨[.t 4], .seq (.reg [.s (.box 2 (.t 0)), .s (.box 3 (.t 1)), .s (.mv 4 (.k (.v (.c .ff))))]) (.seq (.reg [.s (.fa 5 (.t 2) 0), .s (.load 6 false 1 (.t 5)), .s (.fa 7 (.t 3) 0), .s (.load 8 false 1 (.t 7)), .s (.call (some 9) 51 [(.t 6), (.t 8)]), .s (.mv 10 (.t 9)), .g 10 true (some 11) (.fa 11 (.t 2) 1), .g 10 true (some 12) (.load 12 true 6 (.t 11)), .g 10 true (some 13) (.fa 13 (.t 3) 1), .g 10 true (some 14) (.load 14 true 6 (.t 13)), .g 10 true (some 15) (.eqs 15 true [.i, .b, .i, .i, .i, .i] false (.t 12) (.t 14)), .s (.pick 16 (.t 10) (.t 15) (.k (.v (.c .ff)))), .s (.mv 17 (.t 16)), .g 17 true (some 18) (.fa 18 (.t 2) 7), .g 17 true (some 19) (.load 19 true 2 (.t 18)), .g 17 true (some 20) (.fa 20 (.t 3) 7), .g 17 true (some 21) (.load 21 true 2 (.t 20)), .g 17 true (some 22) (.call (some 22) 104 [(.t 19), (.t 21)]), .s (.pick 23 (.t 17) (.t 22) (.k (.v (.c .ff)))), .s (.mv 24 (.t 23)), .g 24 true (some 25) (.fa 25 (.t 2) 9), .g 24 true (some 26) (.load 26 false 1 (.t 25)), .g 24 true (some 27) (.fa 27 (.t 3) 9), .g 24 true (some 28) (.load 28 false 1 (.t 27)), .g 24 true (some 29) (.bin 29 .eql (.t 26) (.t 28)), .s (.pick 30 (.t 24) (.t 29) (.k (.v (.c .ff)))), .s (.mv 4 (.t 30))]) (.ret))⟩
def c_laws_sameState : Fun := ⟨41, [], fun ts K => as2 ts fun t0 t1 => arG pStateT t0 fun a => arG pStateT t1 fun b => chk (LState a 2147483647 ∧ LState b 2147483647) (K (tB (decide (a = b))) [])⟩
theorem run_laws_sameState (a : State) (b : State) (hpre : LState a 2147483647 ∧ LState b 2147483647) : runK [c_laws_sameWords, c_laws_sameMem] (0) [] pf_laws_sameState [tG (a.tc false []), tG (b.tc false [])] fun r o => r = tB (decide (a = b)) ∧ o = [] := by
  obtain ⟨⟨l1, l2, l3⟩, l4, l5, l6⟩ := hpre
  conv => whnf
  repeat' (first | (refine sel_i (fun h => ?_) (fun h => ?_) <;> conv => whnf) | (refine chk_c ?_ ?_ <;> conv => whnf) | (refine And.intro ?_ rfl) | (refine And.intro ?_ ?_ <;> conv => whnf))
  all_goals (try simp only [eqWd, etaKey, etaWord, etaMemory, etaState, decide_eq_true_eq, decide_eq_false_iff_not] at *)
  all_goals first
    | (refine ⟨?_⟩; exact ⟨by assumption, by assumption⟩)
    | (refine ⟨?_⟩; exact ⟨⟨by assumption, by assumption⟩, by assumption, by assumption⟩)
    | (rw [eqStE (by assumption) (by assumption) (by assumption)]; done)
    | (obtain ⟨s1, ⟨s2, s3, ⟨s4, s5, s6, s7⟩⟩, ⟨s8, s9⟩, s10⟩ := a; obtain ⟨t1, ⟨t2, t3, ⟨t4, t5, t6, t7⟩⟩, ⟨t8, t9⟩, t10⟩ := b; simp_all; done)
    | trace_state
theorem ok_laws_sameState : FunOk Tryz.prog c_laws_sameState := funOk (E := [c_laws_sameWords, c_laws_sameMem]) (envOk_cons ok_laws_sameWords (envOk_cons ok_laws_sameMem (envOk_nil))) mixd Tryz.func41 (pf := pf_laws_sameState) (by kernel_rfl) fun ts K h => by
  obtain ⟨t0, t1, e0, h⟩ := as2_out h
  subst e0
  obtain ⟨a, e1, hq⟩ := arG_out rd_state h
  clear h
  subst e1
  have h := hq
  clear hq
  obtain ⟨b, e1, hq⟩ := arG_out rd_state h
  clear h
  subst e1
  have h := hq
  clear hq
  obtain ⟨hpre, h⟩ := chk_o h
  exact ⟨_, _, h, Nat.le_of_ble_eq_true (show Nat.ble 2 Tryz.f41.ntmps = true by kernel_rfl), _, run_laws_sameState a b hpre⟩

def pf_laws_sameSide : PF := ⟨[.t 4], .seq (.reg [.s (.box 2 (.t 0)), .s (.box 3 (.t 1)), .s (.mv 4 (.k (.v (.c .ff))))]) (.seq (.reg [.s (.fa 5 (.t 2) 0), .s (.load 6 false 1 (.t 5)), .s (.fa 7 (.t 3) 0), .s (.load 8 false 1 (.t 7)), .s (.call (some 9) 51 [(.t 6), (.t 8)]), .s (.mv 10 (.t 9)), .g 10 true (some 11) (.fa 11 (.t 2) 1), .g 10 true (some 12) (.load 12 true 6 (.t 11)), .g 10 true (some 13) (.fa 13 (.t 3) 1), .g 10 true (some 14) (.load 14 true 6 (.t 13)), .g 10 true (some 15) (.eqs 15 true [.i, .b, .i, .i, .i, .i] false (.t 12) (.t 14)), .s (.pick 16 (.t 10) (.t 15) (.k (.v (.c .ff)))), .s (.mv 17 (.t 16)), .g 17 true (some 18) (.fa 18 (.t 2) 7), .g 17 true (some 19) (.load 19 false 1 (.t 18)), .g 17 true (some 20) (.fa 20 (.t 3) 7), .g 17 true (some 21) (.load 21 false 1 (.t 20)), .g 17 true (some 22) (.bin 22 .eql (.t 19) (.t 21)), .s (.pick 23 (.t 17) (.t 22) (.k (.v (.c .ff)))), .s (.mv 4 (.t 23))]) (.ret))⟩
def c_laws_sameSide : Fun := ⟨46, [], fun ts K => as2 ts fun t0 t1 => arG pSideT t0 fun a => arG pSideT t1 fun b => chk (a.regs.length ≤ 2147483647 ∧ b.regs.length ≤ 2147483647) (K (tB (decide (a = b))) [])⟩
theorem run_laws_sameSide (a : Side) (b : Side) (hpre : a.regs.length ≤ 2147483647 ∧ b.regs.length ≤ 2147483647) : runK [c_laws_sameWords] (0) [] pf_laws_sameSide [tG (a.tc false []), tG (b.tc false [])] fun r o => r = tB (decide (a = b)) ∧ o = [] := by
  obtain ⟨l1, l2⟩ := hpre
  conv => whnf
  repeat' (first | (refine sel_i (fun h => ?_) (fun h => ?_) <;> conv => whnf) | (refine chk_c ?_ ?_ <;> conv => whnf) | (refine And.intro ?_ rfl) | (refine And.intro ?_ ?_ <;> conv => whnf))
  all_goals (try simp only [eqWd, etaKey, etaWord, etaMemory, etaState, decide_eq_true_eq, decide_eq_false_iff_not] at *)
  all_goals first
    | (refine ⟨?_⟩; exact ⟨by assumption, by assumption⟩)
    | (rw [eqSdE (by assumption) (by assumption)]; done)
    | (obtain ⟨s1, ⟨s2, s3, ⟨s4, s5, s6, s7⟩⟩, s10⟩ := a; obtain ⟨t1, ⟨t2, t3, ⟨t4, t5, t6, t7⟩⟩, t10⟩ := b; simp_all; done)
    | trace_state
theorem ok_laws_sameSide : FunOk Tryz.prog c_laws_sameSide := funOk (E := [c_laws_sameWords]) (envOk_cons ok_laws_sameWords (envOk_nil)) mixd Tryz.func46 (pf := pf_laws_sameSide) (by kernel_rfl) fun ts K h => by
  obtain ⟨t0, t1, e0, h⟩ := as2_out h
  subst e0
  obtain ⟨a, e1, hq⟩ := arG_out rd_side h
  clear h
  subst e1
  have h := hq
  clear hq
  obtain ⟨b, e1, hq⟩ := arG_out rd_side h
  clear h
  subst e1
  have h := hq
  clear hq
  obtain ⟨hpre, h⟩ := chk_o h
  exact ⟨_, _, h, Nat.le_of_ble_eq_true (show Nat.ble 2 Tryz.f46.ntmps = true by kernel_rfl), _, run_laws_sameSide a b hpre⟩

def pf_laws_sameTwo : PF := ⟨[.t 4], .seq (.reg [.s (.box 2 (.t 0)), .s (.box 3 (.t 1)), .s (.mv 4 (.k (.v (.c .ff))))]) (.seq (.reg [.s (.fa 5 (.t 2) 0), .s (.load 6 true 2 (.t 5)), .s (.fa 7 (.t 3) 0), .s (.load 8 true 2 (.t 7)), .s (.call (some 9) 104 [(.t 6), (.t 8)]), .s (.mv 10 (.t 9)), .g 10 true (some 11) (.fa 11 (.t 2) 2), .g 10 true (some 12) (.load 12 true 8 (.t 11)), .g 10 true (some 13) (.fa 13 (.t 3) 2), .g 10 true (some 14) (.load 14 true 8 (.t 13)), .g 10 true (some 15) (.call (some 15) 46 [(.t 12), (.t 14)]), .s (.pick 16 (.t 10) (.t 15) (.k (.v (.c .ff)))), .s (.mv 17 (.t 16)), .g 17 true (some 18) (.fa 18 (.t 2) 10), .g 17 true (some 19) (.load 19 true 8 (.t 18)), .g 17 true (some 20) (.fa 20 (.t 3) 10), .g 17 true (some 21) (.load 21 true 8 (.t 20)), .g 17 true (some 22) (.call (some 22) 46 [(.t 19), (.t 21)]), .s (.pick 23 (.t 17) (.t 22) (.k (.v (.c .ff)))), .s (.mv 4 (.t 23))]) (.ret))⟩
def c_laws_sameTwo : Fun := ⟨38, [], fun ts K => as2 ts fun t0 t1 => arG pTwoT t0 fun a => arG pTwoT t1 fun b => chk (LTwo a 2147483647 ∧ LTwo b 2147483647) (K (tB (decide (a = b))) [])⟩
theorem run_laws_sameTwo (a : Two) (b : Two) (hpre : LTwo a 2147483647 ∧ LTwo b 2147483647) : runK [c_laws_sameSide, c_laws_sameMem] (0) [] pf_laws_sameTwo [tG (a.tc false []), tG (b.tc false [])] fun r o => r = tB (decide (a = b)) ∧ o = [] := by
  obtain ⟨⟨⟨l1, l2⟩, l3, l4⟩, ⟨l5, l6⟩, l7, l8⟩ := hpre
  conv => whnf
  repeat' (first | (refine sel_i (fun h => ?_) (fun h => ?_) <;> conv => whnf) | (refine chk_c ?_ ?_ <;> conv => whnf) | (refine And.intro ?_ rfl) | (refine And.intro ?_ ?_ <;> conv => whnf))
  all_goals (try simp only [eqWd, etaKey, etaWord, etaMemory, etaSide, etaTwo, decide_eq_true_eq, decide_eq_false_iff_not] at *)
  all_goals first
    | (refine ⟨?_⟩; exact ⟨by assumption, by assumption⟩)
    | (refine ⟨?_⟩; exact ⟨⟨by assumption, by assumption⟩, by assumption, by assumption⟩)
    | (obtain ⟨s1, s2, s3⟩ := a; obtain ⟨t1, t2, t3⟩ := b; simp_all; done)
    | trace_state
theorem ok_laws_sameTwo : FunOk Tryz.prog c_laws_sameTwo := funOk (E := [c_laws_sameSide, c_laws_sameMem]) (envOk_cons ok_laws_sameSide (envOk_cons ok_laws_sameMem (envOk_nil))) mixd Tryz.func38 (pf := pf_laws_sameTwo) (by kernel_rfl) fun ts K h => by
  obtain ⟨t0, t1, e0, h⟩ := as2_out h
  subst e0
  obtain ⟨a, e1, hq⟩ := arG_out rd_two h
  clear h
  subst e1
  have h := hq
  clear hq
  obtain ⟨b, e1, hq⟩ := arG_out rd_two h
  clear h
  subst e1
  have h := hq
  clear hq
  obtain ⟨hpre, h⟩ := chk_o h
  exact ⟨_, _, h, Nat.le_of_ble_eq_true (show Nat.ble 2 Tryz.f38.ntmps = true by kernel_rfl), _, run_laws_sameTwo a b hpre⟩



def SideOk (x : Side) : Prop := x.regs.length = 8 ∧ (∀ w ∈ x.regs, wordOk w = true) ∧ wordOk x.pc = true ∧ 0 ≤ x.trap ∧ x.trap ≤ 5
theorem twoOk_of {t : Two} (hm : memoryOk t.mem = true) (ha : SideOk t.a) (hb : SideOk t.b) : twoOk t = true := by
  refine twoOk_iff.2 ⟨?_, ?_⟩
  · rw [side0]; exact stateOk_iff.2 ⟨ha.1, ha.2.1, ha.2.2.1, hm, ha.2.2.2.1, ha.2.2.2.2⟩
  · rw [side1]; exact stateOk_iff.2 ⟨hb.1, hb.2.1, hb.2.2.1, hm, hb.2.2.2.1, hb.2.2.2.2⟩
theorem twoOk_parts {t : Two} (h : twoOk t = true) : memoryOk t.mem = true ∧ SideOk t.a ∧ SideOk t.b := by
  obtain ⟨h1, h2⟩ := twoOk_iff.1 h
  rw [side0] at h1; rw [side1] at h2
  obtain ⟨a1, a2, a3, a4, a5, a6⟩ := stateOk_iff.1 h1
  obtain ⟨b1, b2, b3, b4, b5, b6⟩ := stateOk_iff.1 h2
  exact ⟨a4, ⟨a1, a2, a3, a5, a6⟩, b1, b2, b3, b5, b6⟩
theorem sideNew_ok (k : Key) (n : Int) : SideOk ⟨stateNew.regs.set 0 (keyWord k n), stateNew.pc, 0⟩ := by
  obtain ⟨a1, a2, a3, a4, a5, a6⟩ := stateOk_iff.1 stateNew_ok
  refine ⟨by simp [a1], fun v hv => ?_, a3, Int.le_refl _, by show (0 : Int) ≤ 5; decide⟩
  rcases mem_set hv with q | q
  · exact a2 v q
  · rw [q]; exact keyWord_ok k n
theorem kSide {K : Tree → List Tree → Prop} {o : List Tree} {P : Side → Prop} (hK : ∀ x : Side, P x → K (tG (x.tc true [])) o) (r : List Word) (n : Int) (is : Bool) (a b c d : Int) (t : Int) (h : P ⟨r, ⟨n, is, ⟨a, b, c, d⟩⟩, t⟩) :
    K (.v (.g [.ow .word r, .int .i64 n, .bool is, .int .i64 a, .int .i64 b, .int .i64 c, .int .i64 d, .int .i64 t])) o := hK ⟨r, ⟨n, is, ⟨a, b, c, d⟩⟩, t⟩ h

def pf_spec_l22DrawSide : PF := ⟨[.c 6 true 8], .seq (.reg [.s (.alloc 6 [.nils .word, .int .i64 0, .ff, .int .i64 0, .int .i64 0, .int .i64 0, .int .i64 0, .int .i64 0])]) (.seq (.reg [.s (.call (some 9) 139 []), .s (.alloc 7 [.nils .word, .int .i64 0, .ff, .int .i64 0, .int .i64 0, .int .i64 0, .int .i64 0, .nils .word, .nils .bool, .int .i64 0]), .s (.store 10 (.t 7) (.t 9))]) (.seq (.reg [.s (.fa 10 (.t 7) 0), .s (.load 11 false 1 (.t 10)), .s (.fa 12 (.t 7) 1), .s (.load 13 true 6 (.t 12)), .s (.build 14 [.nils .word, .int .i64 0, .ff, .int .i64 0, .int .i64 0, .int .i64 0, .int .i64 0, .int .i64 0] [(0, 1, (.t 11)), (1, 6, (.t 13))]), .s (.alloc 8 [.nils .word, .int .i64 0, .ff, .int .i64 0, .int .i64 0, .int .i64 0, .int .i64 0, .int .i64 0]), .s (.store 8 (.t 8) (.t 14))]) (.seq (.rgd [0] [.s (.fa 15 (.t 8) 0), .s (.load 16 false 1 (.t 15)), .s (.mv 17 (.t 1)), .s (.mv 18 (.t 1)), .s (.mv 19 (.t 2)), .s (.bin 20 .add (.t 18) (.t 19)), .s (.mv 21 (.t 0)), .s (.bs 22 (.int .i64) [(.k (.v (.c (.int .i64 4)))), (.k (.v (.c (.int .i64 4)))), (.k (.v (.c (.int .i64 4)))), (.k (.v (.c (.int .i64 6)))), (.k (.v (.c (.int .i64 12)))), (.k (.v (.c (.int .i64 20))))]), .s (.call (some 23) 93 [(.t 21), (.t 22)]), .s (.bin 24 .sub (.k (.v (.c (.int .i64 31)))) (.t 23)), .s (.build 25 [.int .i64 0, .int .i64 0, .int .i64 0, .int .i64 0] [(0, 1, (.t 17)), (1, 1, (.t 20)), (2, 1, (.t 24))]), .s (.mv 26 (.t 1)), .s (.call (some 27) 143 [(.t 25), (.t 26)]), .s (.ia 28 .word (.t 16) (.k (.v (.c (.int .i64 0))))), .s (.store 6 (.t 28) (.t 27))] (.tk 0 (.tk 1 (.tk 2 (.tk 3 (.tk 4 (.tk 5 (.tk 6 (.tk 11 (.one 7 false (.one 8 false (.tk 9 (.tk 10 (.one 12 false (.tk 13 (.one 14 true (.done none))))))))))))))))) (.seq (.reg [.s (.load 29 true 8 (.t 8)), .s (.store 8 (.t 6) (.t 29))]) (.ret)))))⟩
def c_spec_l22DrawSide : Fun := ⟨174, [true, false, false], fun ts K => as3 ts fun t0 t1 t2 => arQ pCurT t0 fun c => arC (pI .i64) t1 fun p => arC (pI .i64) t2 fun n => chk (CurOk c) (∀ (x : Side) (d : Cur), (SideOk x ∧ CurOk d) → K (tG (x.tc true [])) ([curOut d]))⟩
theorem run_spec_l22DrawSide (c : Cur) (p : Int) (n : Int) (hpre : CurOk c) {K : Tree → List Tree → Prop} (hK : ∀ (x : Side) (d : Cur), (SideOk x ∧ CurOk d) → K (tG (x.tc true [])) ([curOut d])) : runK [c_spec_l1PickInt, c_spec_StateNew, c_spec_KeyWord] (0) [true, false, false] pf_spec_l22DrawSide [.v (.ptr true 0 (c.tc [])), tI .i64 p, tI .i64 n] K := by
  conv => whnf
  repeat' (first | (refine sel_i (fun h => ?_) (fun h => ?_) <;> conv => whnf) | (refine chk_c ?_ ?_ <;> conv => whnf) | (refine And.intro ?_ rfl) | (refine And.intro ?_ ?_ <;> conv => whnf) | (intro x y z d hd; (try have g1 := And.left hd); (try have g2 := And.right hd); (try have g3 := And.left (And.right hd)); (try have g4 := And.right (And.right hd)); conv => whnf) | (intro x y d hd; (try have g1 := And.left hd); (try have g2 := And.right hd); (try have g3 := And.left (And.right hd)); (try have g4 := And.right (And.right hd)); conv => whnf) | (intro x d hd; (try have g1 := And.left hd); (try have g2 := And.right hd); (try have g3 := And.left (And.right hd)); (try have g4 := And.right (And.right hd)); conv => whnf) | (intro d hd; (try have g1 := And.left hd); (try have g2 := And.right hd); (try have g3 := And.left (And.right hd)); (try have g4 := And.right (And.right hd)); conv => whnf))
  all_goals first
    | (refine ⟨?_⟩; exact ⟨hpre, by simp⟩)
    | (refine ⟨?_⟩; decide)
    | (refine ⟨?_⟩; rfl)
    | (exact kSide (fun s hs => hK s _ hs) _ _ _ _ _ _ _ _ ⟨sideNew_ok _ _, hd.2⟩)
    | trace_state
theorem ok_spec_l22DrawSide : FunOk Tryz.prog c_spec_l22DrawSide := funOkR (E := [c_spec_l1PickInt, c_spec_StateNew, c_spec_KeyWord]) (envOk_cons ok_spec_l1PickInt (envOk_cons ok_spec_StateNew (envOk_cons ok_spec_KeyWord (envOk_nil)))) mixd Tryz.func174 (pf := pf_spec_l22DrawSide) (by kernel_rfl) fun ts K h => by
  obtain ⟨t0, t1, t2, e0, h⟩ := as3_out h
  subst e0
  obtain ⟨c, e1, hq⟩ := arQ_out rd_cur h
  clear h
  subst e1
  have h := hq
  clear hq
  obtain ⟨p, e1, hq⟩ := arC_out (rd_int .i64) h
  clear h
  subst e1
  have h := hq
  clear hq
  obtain ⟨n, e1, hq⟩ := arC_out (rd_int .i64) h
  clear h
  subst e1
  have h := hq
  clear hq
  obtain ⟨hpre, h⟩ := chk_o h
  exact ⟨Nat.le_of_ble_eq_true (show Nat.ble 3 Tryz.f174.ntmps = true by kernel_rfl), _, run_spec_l22DrawSide c p n hpre h⟩

def twoC (m : Mem) (a b : Side) (i j k l : Nat) : List Cell := [.sl false .word i, .sl false .bool j, .sl false .word k, .int .i64 a.pc.n, .bool a.pc.is, .int .i64 a.pc.key.base, .int .i64 a.pc.key.top, .int .i64 a.pc.key.perms, .int .i64 a.pc.key.sealed, .int .i64 a.trap, .sl false .word l, .int .i64 b.pc.n, .bool b.pc.is, .int .i64 b.pc.key.base, .int .i64 b.pc.key.top, .int .i64 b.pc.key.perms, .int .i64 b.pc.key.sealed, .int .i64 b.trap]
def zTwoC : List Cell := [.nils .word, .nils .bool, .nils .word, .int .i64 0, .ff, .int .i64 0, .int .i64 0, .int .i64 0, .int .i64 0, .int .i64 0, .nils .word, .int .i64 0, .ff, .int .i64 0, .int .i64 0, .int .i64 0, .int .i64 0, .int .i64 0]
theorem kTwo {K : Tree → List Tree → Prop} {o : List Tree} {P : Two → Prop} {la lb : List Inst} (hK : ∀ t : Two, P t → K (.tup [.c (tl true .inst la), .c (tl true .inst lb), .g (t.tc true [])]) o) (w : List Word) (g : List Bool)
    (r : List Word) (n : Int) (is : Bool) (a b c d t : Int) (r' : List Word) (n' : Int) (is' : Bool) (a' b' c' d' t' : Int) (h : P ⟨⟨w, g⟩, ⟨r, ⟨n, is, ⟨a, b, c, d⟩⟩, t⟩, ⟨r', ⟨n', is', ⟨a', b', c', d'⟩⟩, t'⟩⟩) :
    K (.tup [.c (.ow .inst la), .c (.ow .inst lb), .g [.ow .word w, .ow .bool g, .ow .word r, .int .i64 n, .bool is, .int .i64 a, .int .i64 b, .int .i64 c, .int .i64 d, .int .i64 t, .ow .word r', .int .i64 n', .bool is', .int .i64 a', .int .i64 b', .int .i64 c', .int .i64 d', .int .i64 t']]) o :=
  hK ⟨⟨w, g⟩, ⟨r, ⟨n, is, ⟨a, b, c, d⟩⟩, t⟩, ⟨r', ⟨n', is', ⟨a', b', c', d'⟩⟩, t'⟩⟩ h

def lb_spec_l22DrawRight_0 : PC := .seq (.seq (.reg [.s (.mv 21 (.t 6)), .s (.mv 22 (.t 0)), .s (.call (some 23) 99 [(.t 22), (.k (.v (.c (.int .i64 8))))]), .s (.bin 24 .lss (.t 21) (.t 23))]) (.cond (.t 24) (.skip) (.exit 0))) (.seq (.blk 1 (.rgd [0] [.s (.fa 27 (.t 5) 0), .s (.fa 28 (.t 27) 0), .s (.load 29 false 1 (.t 28)), .s (.mv 30 (.t 0)), .s (.call (some 31) 99 [(.t 30), (.k (.v (.c (.int .i64 24))))]), .s (.mv 32 (.t 0)), .s (.call (some 33) 99 [(.t 32), (.k (.v (.c (.int .i64 9))))]), .s (.call (some 34) 141 [(.t 33)]), .s (.ia 35 .word (.t 29) (.t 31)), .s (.store 6 (.t 35) (.t 34))] (.tk 0 (.tk 1 (.tk 2 (.tk 3 (.tk 5 (.one 4 false (.one 6 false (.one 7 false (.tk 8 (.one 9 true (.done none))))))))))))) (.reg [.s (.mv 25 (.t 6)), .s (.bin 26 .add (.t 25) (.k (.v (.c (.int .i64 1))))), .s (.mv 6 (.t 26))]))
def pf_spec_l22DrawRight : PF := ⟨[.t 2, .t 3, .c 4 true 18], .seq (.reg [.s (.mv 2 (.k (.v (.c (.nils .inst))))), .s (.mv 3 (.k (.v (.c (.nils .inst))))), .s (.alloc 4 [.nils .word, .nils .bool, .nils .word, .int .i64 0, .ff, .int .i64 0, .int .i64 0, .int .i64 0, .int .i64 0, .int .i64 0, .nils .word, .int .i64 0, .ff, .int .i64 0, .int .i64 0, .int .i64 0, .int .i64 0, .int .i64 0])]) (.seq (.reg [.s (.call (some 8) 166 []), .s (.mv 9 (.t 0)), .s (.call (some 10) 174 [(.t 9), (.k (.v (.c (.int .i64 0)))), (.k (.v (.c (.int .i64 12))))]), .s (.mv 11 (.t 0)), .s (.call (some 12) 174 [(.t 11), (.k (.v (.c (.int .i64 12)))), (.k (.v (.c (.int .i64 12))))]), .s (.build 13 [.nils .word, .nils .bool, .nils .word, .int .i64 0, .ff, .int .i64 0, .int .i64 0, .int .i64 0, .int .i64 0, .int .i64 0, .nils .word, .int .i64 0, .ff, .int .i64 0, .int .i64 0, .int .i64 0, .int .i64 0, .int .i64 0] [(0, 2, (.t 8)), (2, 8, (.t 10)), (10, 8, (.t 12))]), .s (.alloc 5 [.nils .word, .nils .bool, .nils .word, .int .i64 0, .ff, .int .i64 0, .int .i64 0, .int .i64 0, .int .i64 0, .int .i64 0, .nils .word, .int .i64 0, .ff, .int .i64 0, .int .i64 0, .int .i64 0, .int .i64 0, .int .i64 0]), .s (.store 18 (.t 5) (.t 13))]) (.seq (.seq (.reg [.s (.mv 14 (.t 0)), .s (.call (some 15) 66 [(.t 14), (.k (.v (.c (.int .i64 4))))])]) (.cond (.t 15) (.reg [.s (.mv 16 (.t 0)), .s (.mv 17 (.t 0)), .s (.call (some 18) 99 [(.t 17), (.k (.v (.c (.int .i64 12))))]), .s (.call (some 19) 174 [(.t 16), (.t 18), (.k (.v (.c (.int .i64 6))))]), .s (.fa 20 (.t 5) 10), .s (.store 8 (.t 20) (.t 19))]) (.skip))) (.seq (.seq (.reg [.s (.mv 6 (.k (.v (.c (.int .i64 0)))))]) (.blk 0 (.loop [0, 4, 5, 6] lb_spec_l22DrawRight_0))) (.seq (.seq (.reg [.s (.mv 36 (.t 0)), .s (.call (some 37) 66 [(.t 36), (.k (.v (.c (.int .i64 4))))])]) (.cond (.t 37) (.reg [.s (.mv 38 (.t 0)), .s (.call (some 39) 140 [(.t 38)]), .s (.fa 40 (.t 5) 0), .s (.store 2 (.t 40) (.t 39))]) (.skip))) (.seq (.reg [.s (.mv 41 (.t 0)), .s (.call (some 42) 138 [(.t 41)]), .s (.mv 7 (.t 42))]) (.seq (.rgd [0] [.s (.mv 43 (.t 7)), .s (.mv 44 (.t 0)), .s (.call (some 45) 138 [(.t 44)]), .s (.load 46 true 18 (.t 5)), .s (.mv 2 (.t 43)), .s (.mv 3 (.t 45)), .s (.store 18 (.t 4) (.t 46))] (.tk 0 (.tk 1 (.tk 3 (.one 2 false (.tk 4 (.tk 5 (.one 6 true (.done none))))))))) (.ret)))))))⟩
def c_spec_l22DrawRight : Fun := ⟨108, [true], fun ts K => as1 ts fun t0 => arQ pCurT t0 fun c => chk (CurOk c) (∀ (a : List Inst) (b : List Inst) (t : Two) (d : Cur), ((a.length ≤ 20 ∧ b.length ≤ 20) ∧ twoOk t = true ∧ CurOk d) → K (.tup [.c (tl true .inst a), .c (tl true .inst b), .g (t.tc true [])]) ([curOut d]))⟩
theorem run_spec_l22DrawRight (FU : Nat) (c : Cur) (hpre : CurOk c) {K : Tree → List Tree → Prop} (hK : ∀ (a : List Inst) (b : List Inst) (t : Two) (d : Cur), ((a.length ≤ 20 ∧ b.length ≤ 20) ∧ twoOk t = true ∧ CurOk d) → K (.tup [.c (tl true .inst a), .c (tl true .inst b), .g (t.tc true [])]) ([curOut d])) : runK [c_spec_l1Once, c_spec_l1Below, c_spec_l6DrawCode, c_spec_l8DrawRight, c_spec_Plain, c_spec_MemoryNew, c_spec_l22DrawSide] (20 + FU) [true] pf_spec_l22DrawRight [.v (.ptr true 0 (c.tc []))] K := by
  conv => whnf
  repeat' (first | (refine sel_i (fun h => ?_) (fun h => ?_) <;> conv => whnf) | (refine chk_c ?_ ?_ <;> conv => whnf) | (refine And.intro ?_ rfl) | (refine And.intro ?_ ?_ <;> conv => whnf) | (intro x y z d hd; (try have g1 := And.left hd); (try have g2 := And.right hd); (try have g3 := And.left (And.right hd)); (try have g4 := And.right (And.right hd)); conv => whnf) | (intro x y d hd; (try have g1 := And.left hd); (try have g2 := And.right hd); (try have g3 := And.left (And.right hd)); (try have g4 := And.right (And.right hd)); conv => whnf) | (intro x d hd; (try have g1 := And.left hd); (try have g2 := And.right hd); (try have g3 := And.left (And.right hd)); (try have g4 := And.right (And.right hd)); conv => whnf) | (intro d hd; (try have g1 := And.left hd); (try have g2 := And.right hd); (try have g3 := And.left (And.right hd)); (try have g4 := And.right (And.right hd)); conv => whnf))
  all_goals first
    | (refine ⟨?_⟩; exact hd.2)
    | (refine ⟨?_⟩; exact hpre)
    | (refine ⟨?_⟩; exact hd)
    | skip
  · rename_i A _ hA _ _ _ _ _ _ _ _ _ _ _ _ _ _ _ _ _ _ _ _ _ _ _ 
    refine loop (α := Nat × Cur × Mem) (fun q => ⟨[(0, .v (.c (.ptr 0 0))), (4, .v (.c (.ptr 2 0))), (5, .v (.c (.ptr 3 0))), (6, .v (.c (.int .i64 (q.1 : Int))))],
        [(7, some (.flat true .word none x.regs)), (6, some (.flat true .word none A.regs)), (5, some (.flat true .bool none q.2.2.gone)), (4, some (.flat true .word none q.2.2.words)),
          (3, some (.box true (twoC q.2.2 A x 4 5 6 7))), (2, some (.box true zTwoC)), (1, some (.flat false (.int .u8) none q.2.1.b)), (0, some (.box true (cuC q.2.1 1)))], nums.tail.tail.tail.tail.tail.tail.tail.tail, [.v (.c (.ptr 0 0))], false, []⟩)
      (fun q => q.1 ≤ 8 ∧ CurOk q.2.1 ∧ memoryOk q.2.2 = true) (fun q => 8 - q.1) (fun q R hI hR => ?_) (0, d, memNew) _ ⟨by simp, hd.2, memNew_ok⟩ (by show 8 - 0 < 20 + FU; omega)
    have hA := hA.1
    have hB := hd.1
    obtain ⟨i, e, m⟩ := q
    obtain ⟨hi, he, hm⟩ := hI
    dsimp only at hi he hm
    dsimp only
    have hl := memoryOk_iff.1 hm
    conv => whnf
    repeat' (first | (refine sel_i (fun h => ?_) (fun h => ?_) <;> conv => whnf) | (refine chk_c ?_ ?_ <;> conv => whnf) | (refine And.intro ?_ rfl) | (refine And.intro ?_ ?_ <;> conv => whnf) | (intro x y z d hd; (try have g1 := And.left hd); (try have g2 := And.right hd); (try have g3 := And.left (And.right hd)); (try have g4 := And.right (And.right hd)); conv => whnf) | (intro x y d hd; (try have g1 := And.left hd); (try have g2 := And.right hd); (try have g3 := And.left (And.right hd)); (try have g4 := And.right (And.right hd)); conv => whnf) | (intro x d hd; (try have g1 := And.left hd); (try have g2 := And.right hd); (try have g3 := And.left (And.right hd)); (try have g4 := And.right (And.right hd)); conv => whnf) | (intro d hd; (try have g1 := And.left hd); (try have g2 := And.right hd); (try have g3 := And.left (And.right hd)); (try have g4 := And.right (And.right hd)); conv => whnf))
    all_goals first
      | (refine ⟨?_⟩; exact he)
      | (refine ⟨?_⟩; exact hd)
      | (refine ⟨?_⟩; exact hd.2)
      | (refine ⟨?_⟩; exact hd.2.2)
      | (refine ⟨?_⟩; simp at *; omega)
      | (rw [wrap_id (n := (i : Int) + 1) (by omega) (by omega)]; exact hR (i + 1, _, ⟨_, _⟩) ⟨by simp at h ⊢; omega, hd.2, memoryOk_setW hm (plainW_ok _)⟩ (by simp at h ⊢; omega))
      | (refine kTwo (fun t ht => hK _ _ t _ ht) _ _ _ _ _ _ _ _ _ _ _ _ _ _ _ _ _ _ ⟨⟨?_, ?_⟩, twoOk_of ?_ ?_ ?_, ?_⟩ <;> first | assumption | exact hA | exact hB | exact hd.2 | exact hd.1 | exact (by assumption : _ ∧ CurOk _).1 | trace_state)
      | trace_state
  · rename_i A _ hA _ _ _ _ B _ hB _ _
    refine loop (α := Nat × Cur × Mem) (fun q => ⟨[(0, .v (.c (.ptr 0 0))), (4, .v (.c (.ptr 2 0))), (5, .v (.c (.ptr 3 0))), (6, .v (.c (.int .i64 (q.1 : Int))))],
        [(7, some (.flat true .word none B.regs)), (6, some (.flat true .word none A.regs)), (5, some (.flat true .bool none q.2.2.gone)), (4, some (.flat true .word none q.2.2.words)),
          (3, some (.box true (twoC q.2.2 A B 4 5 6 7))), (2, some (.box true zTwoC)), (1, some (.flat false (.int .u8) none q.2.1.b)), (0, some (.box true (cuC q.2.1 1)))], nums.tail.tail.tail.tail.tail.tail.tail.tail, [.v (.c (.ptr 0 0))], false, []⟩)
      (fun q => q.1 ≤ 8 ∧ CurOk q.2.1 ∧ memoryOk q.2.2 = true) (fun q => 8 - q.1) (fun q R hI hR => ?_) (0, d, memNew) _ ⟨by simp, hd, memNew_ok⟩ (by show 8 - 0 < 20 + FU; omega)
    have hA := hA.1
    have hB := hB.1
    obtain ⟨i, e, m⟩ := q
    obtain ⟨hi, he, hm⟩ := hI
    dsimp only at hi he hm
    dsimp only
    have hl := memoryOk_iff.1 hm
    conv => whnf
    repeat' (first | (refine sel_i (fun h => ?_) (fun h => ?_) <;> conv => whnf) | (refine chk_c ?_ ?_ <;> conv => whnf) | (refine And.intro ?_ rfl) | (refine And.intro ?_ ?_ <;> conv => whnf) | (intro x y z d hd; (try have g1 := And.left hd); (try have g2 := And.right hd); (try have g3 := And.left (And.right hd)); (try have g4 := And.right (And.right hd)); conv => whnf) | (intro x y d hd; (try have g1 := And.left hd); (try have g2 := And.right hd); (try have g3 := And.left (And.right hd)); (try have g4 := And.right (And.right hd)); conv => whnf) | (intro x d hd; (try have g1 := And.left hd); (try have g2 := And.right hd); (try have g3 := And.left (And.right hd)); (try have g4 := And.right (And.right hd)); conv => whnf) | (intro d hd; (try have g1 := And.left hd); (try have g2 := And.right hd); (try have g3 := And.left (And.right hd)); (try have g4 := And.right (And.right hd)); conv => whnf))
    all_goals first
      | (refine ⟨?_⟩; exact he)
      | (refine ⟨?_⟩; exact hd)
      | (refine ⟨?_⟩; exact hd.2)
      | (refine ⟨?_⟩; exact hd.2.2)
      | (refine ⟨?_⟩; simp at *; omega)
      | (rw [wrap_id (n := (i : Int) + 1) (by omega) (by omega)]; exact hR (i + 1, _, ⟨_, _⟩) ⟨by simp at h ⊢; omega, hd.2, memoryOk_setW hm (plainW_ok _)⟩ (by simp at h ⊢; omega))
      | (refine kTwo (fun t ht => hK _ _ t _ ht) _ _ _ _ _ _ _ _ _ _ _ _ _ _ _ _ _ _ ⟨⟨?_, ?_⟩, twoOk_of ?_ ?_ ?_, ?_⟩ <;> first | assumption | exact hA | exact hB | exact hd.2 | exact hd.1 | exact (by assumption : _ ∧ CurOk _).1 | trace_state)
      | trace_state
theorem ok_spec_l22DrawRight : FunOk Tryz.prog c_spec_l22DrawRight := funOkR (E := [c_spec_l1Once, c_spec_l1Below, c_spec_l6DrawCode, c_spec_l8DrawRight, c_spec_Plain, c_spec_MemoryNew, c_spec_l22DrawSide]) (envOk_cons ok_spec_l1Once (envOk_cons ok_spec_l1Below (envOk_cons ok_spec_l6DrawCode (envOk_cons ok_spec_l8DrawRight (envOk_cons ok_spec_Plain (envOk_cons ok_spec_MemoryNew (envOk_cons ok_spec_l22DrawSide (envOk_nil)))))))) mixd Tryz.func108 (pf := pf_spec_l22DrawRight) (by kernel_rfl) fun ts K h => by
  obtain ⟨t0, e0, h⟩ := as1_out h
  subst e0
  obtain ⟨c, e1, hq⟩ := arQ_out rd_cur h
  clear h
  subst e1
  have h := hq
  clear hq
  obtain ⟨hpre, h⟩ := chk_o h
  exact ⟨Nat.le_of_ble_eq_true (show Nat.ble 1 Tryz.f108.ntmps = true by kernel_rfl), _, run_spec_l22DrawRight 0 c hpre h⟩

def lb_spec_l22DrawOrder_0 : PC := .seq (.seq (.reg [.s (.mv 8 (.t 6)), .s (.mv 9 (.t 0)), .s (.mv 10 (.t 1)), .s (.call (some 11) 99 [(.t 9), (.t 10)]), .s (.bin 12 .lss (.t 8) (.t 11))]) (.cond (.t 12) (.skip) (.exit 0))) (.seq (.blk 1 (.reg [.s (.mv 15 (.t 5)), .s (.mv 16 (.t 0)), .s (.call (some 17) 99 [(.t 16), (.k (.v (.c (.int .i64 2))))]), .s (.bs 18 (.int .i64) [(.t 17)]), .s (.app 19 (.int .i64) (.t 15) (.t 18)), .s (.mv 5 (.t 19))])) (.reg [.s (.mv 13 (.t 6)), .s (.bin 14 .add (.t 13) (.k (.v (.c (.int .i64 1))))), .s (.mv 6 (.t 14))]))
def pf_spec_l22DrawOrder : PF := ⟨[.t 4], .seq (.reg [.s (.mv 4 (.k (.v (.c (.nils (.int .i64))))))]) (.seq (.reg [.s (.bs 7 (.int .i64) []), .s (.mv 5 (.t 7))]) (.seq (.seq (.reg [.s (.mv 6 (.k (.v (.c (.int .i64 0)))))]) (.blk 0 (.loop [0, 1, 5, 6] lb_spec_l22DrawOrder_0))) (.seq (.reg [.s (.mv 20 (.t 5)), .s (.mv 4 (.t 20))]) (.ret))))⟩
def c_spec_l22DrawOrder : Fun := ⟨103, [true, false], fun ts K => as2 ts fun t0 t1 => arQ pCurT t0 fun c => arC (pI .i64) t1 fun most => chk (CurOk c ∧ most ≤ 80) (∀ (l : List Int) (d : Cur), ((l.length ≤ 80 ∧ ∀ v ∈ l, v = 0 ∨ v = 1) ∧ CurOk d) → K (tL true (.int .i64) l) ([curOut d]))⟩
theorem run_spec_l22DrawOrder (FU : Nat) (c : Cur) (most : Int) (hpre : CurOk c ∧ most ≤ 80) {K : Tree → List Tree → Prop} (hK : ∀ (l : List Int) (d : Cur), ((l.length ≤ 80 ∧ ∀ v ∈ l, v = 0 ∨ v = 1) ∧ CurOk d) → K (tL true (.int .i64) l) ([curOut d])) : runK [c_spec_l1Below] (100 + FU) [true, false] pf_spec_l22DrawOrder [.v (.ptr true 0 (c.tc [])), tI .i64 most] K := by
  obtain ⟨hp1, hp2⟩ := hpre
  refine loop (α := Nat × Cur × List Int) (fun q => ⟨[(0, .v (.c (.ptr 0 0))), (1, .v (.c (.int .i64 most))), (5, .v (.c (.sl true (.int .i64) 2))), (6, .v (.c (.int .i64 (q.1 : Int))))],
        [(2, some (.flat true (.int .i64) none q.2.2)), (1, some (.flat false (.int .u8) none q.2.1.b)), (0, some (.box true (cuC q.2.1 1)))], nums.tail.tail.tail, [.v (.c (.ptr 0 0))], false, []⟩)
      (fun q => q.1 ≤ 80 ∧ CurOk q.2.1 ∧ q.2.2.length = q.1 ∧ ∀ v ∈ q.2.2, v = 0 ∨ v = 1) (fun q => 80 - q.1) (fun q R hI hR => ?_) (0, c, []) _ ⟨by simp, hp1, rfl, fun v hv => by cases hv⟩ (by show 80 - 0 < 100 + FU; omega)
  obtain ⟨i, e, m⟩ := q
  obtain ⟨hi, he, hm, hv⟩ := hI
  dsimp only at hi he hm hv
  dsimp only
  conv => whnf
  repeat' (first | (refine sel_i (fun h => ?_) (fun h => ?_) <;> conv => whnf) | (refine chk_c ?_ ?_ <;> conv => whnf) | (refine And.intro ?_ rfl) | (refine And.intro ?_ ?_ <;> conv => whnf) | (intro x y z d hd; (try have g1 := And.left hd); (try have g2 := And.right hd); (try have g3 := And.left (And.right hd)); (try have g4 := And.right (And.right hd)); conv => whnf) | (intro x y d hd; (try have g1 := And.left hd); (try have g2 := And.right hd); (try have g3 := And.left (And.right hd)); (try have g4 := And.right (And.right hd)); conv => whnf) | (intro x d hd; (try have g1 := And.left hd); (try have g2 := And.right hd); (try have g3 := And.left (And.right hd)); (try have g4 := And.right (And.right hd)); conv => whnf) | (intro d hd; (try have g1 := And.left hd); (try have g2 := And.right hd); (try have g3 := And.left (And.right hd)); (try have g4 := And.right (And.right hd)); conv => whnf))
  all_goals first
    | (refine ⟨?_⟩; exact he)
    | (refine ⟨?_⟩; exact hd)
    | (refine ⟨?_⟩; exact hd.2)
    | (refine ⟨?_⟩; simp at *; omega)
    | (exact hK m d ⟨⟨by omega, hv⟩, hd.2⟩)
    | (rw [wrap_id (n := (i : Int) + 1) (by omega) (by omega)]
       have h := of_decide_eq_true h
       rename_i y _ hy _ _ _ _
       have hy := hy.1
       have hi3 : i < 80 := by omega
       refine hR (i + 1, _, _) ⟨?_, hd.2, ?_, ?_⟩ ?_
       · dsimp only; omega
       · simp [hm]
       · intro v hq
         rcases List.mem_append.1 hq with q | q
         · exact hv v q
         · rw [List.mem_singleton.1 q]; have := hd.1; omega
       · dsimp only; omega)
    | trace_state
theorem ok_spec_l22DrawOrder : FunOk Tryz.prog c_spec_l22DrawOrder := funOkR (E := [c_spec_l1Below]) (envOk_cons ok_spec_l1Below (envOk_nil)) mixd Tryz.func103 (pf := pf_spec_l22DrawOrder) (by kernel_rfl) fun ts K h => by
  obtain ⟨t0, t1, e0, h⟩ := as2_out h
  subst e0
  obtain ⟨c, e1, hq⟩ := arQ_out rd_cur h
  clear h
  subst e1
  have h := hq
  clear hq
  obtain ⟨most, e1, hq⟩ := arC_out (rd_int .i64) h
  clear h
  subst e1
  have h := hq
  clear hq
  obtain ⟨hpre, h⟩ := chk_o h
  exact ⟨Nat.le_of_ble_eq_true (show Nat.ble 2 Tryz.f103.ntmps = true by kernel_rfl), _, run_spec_l22DrawOrder 0 c most hpre h⟩

def pf_spec_l22Draw : PF := ⟨[.t 2, .t 3, .c 4 true 18], .seq (.reg [.s (.mv 2 (.k (.v (.c (.nils .inst))))), .s (.mv 3 (.k (.v (.c (.nils .inst))))), .s (.alloc 4 [.nils .word, .nils .bool, .nils .word, .int .i64 0, .ff, .int .i64 0, .int .i64 0, .int .i64 0, .int .i64 0, .int .i64 0, .nils .word, .int .i64 0, .ff, .int .i64 0, .int .i64 0, .int .i64 0, .int .i64 0, .int .i64 0])]) (.seq (.reg [.s (.mv 9 (.t 0)), .s (.call (some 10) 108 [(.t 9)]), .s (.mv 8 (.t 10)), .s (.ext 11 (.t 8) 0), .s (.ext 12 (.t 8) 1), .s (.ext 13 (.t 8) 2), .s (.alloc 7 [.nils .word, .nils .bool, .nils .word, .int .i64 0, .ff, .int .i64 0, .int .i64 0, .int .i64 0, .int .i64 0, .int .i64 0, .nils .word, .int .i64 0, .ff, .int .i64 0, .int .i64 0, .int .i64 0, .int .i64 0, .int .i64 0]), .s (.mv 5 (.t 11)), .s (.mv 6 (.t 12)), .s (.store 18 (.t 7) (.t 13))]) (.seq (.seq (.reg [.s (.mv 14 (.t 0)), .s (.call (some 15) 99 [(.t 14), (.k (.v (.c (.int .i64 10))))])]) (.blk 0 (.seq (.reg [.s (.bin 17 .eql (.t 15) (.k (.v (.c (.int .i64 0))))), .s (.mv 16 (.t 17))]) (.cond (.t 16) (.reg [.s (.fa 18 (.t 7) 2), .s (.fa 19 (.t 18) 0), .s (.load 20 false 1 (.t 19)), .s (.slc 21 .word (.t 20) (some (.k (.v (.c (.int .i64 1))))) none), .s (.fa 22 (.t 7) 2), .s (.fa 23 (.t 22) 0), .s (.store 1 (.t 23) (.t 21))]) (.seq (.reg [.s (.bin 25 .eql (.t 15) (.k (.v (.c (.int .i64 1))))), .s (.mv 24 (.t 25))]) (.cond (.t 24) (.reg [.s (.mv 26 (.t 0)), .s (.call (some 27) 99 [(.t 26), (.k (.v (.c (.int .i64 8))))]), .s (.bin 28 .sub (.t 27) (.k (.v (.c (.int .i64 1))))), .s (.fa 29 (.t 7) 10), .s (.fa 30 (.t 29) 7), .s (.store 1 (.t 30) (.t 28))]) (.seq (.reg [.s (.bin 32 .eql (.t 15) (.k (.v (.c (.int .i64 2))))), .s (.mv 31 (.t 32))]) (.cond (.t 31) (.reg [.s (.mv 33 (.t 0)), .s (.call (some 34) 160 [(.t 33)]), .s (.fa 35 (.t 7) 0), .s (.store 2 (.t 35) (.t 34))]) (.seq (.reg [.s (.bin 37 .eql (.t 15) (.k (.v (.c (.int .i64 3))))), .s (.mv 36 (.t 37))]) (.cond (.t 36) (.rgd [0] [.s (.fa 38 (.t 7) 2), .s (.fa 39 (.t 38) 0), .s (.load 40 false 1 (.t 39)), .s (.mv 41 (.t 0)), .s (.call (some 42) 159 [(.t 41)]), .s (.ia 43 .word (.t 40) (.k (.v (.c (.int .i64 2))))), .s (.store 6 (.t 43) (.t 42))] (.tk 0 (.tk 1 (.tk 2 (.tk 3 (.one 4 false (.tk 5 (.one 6 true (.done none))))))))) (.skip))))))))))) (.seq (.rgd [] [.s (.mv 44 (.t 5)), .s (.mv 45 (.t 6)), .s (.load 46 true 18 (.t 7)), .s (.mv 2 (.t 44)), .s (.mv 3 (.t 45)), .s (.store 18 (.t 4) (.t 46))] (.tk 0 (.tk 1 (.tk 2 (.tk 3 (.tk 4 (.one 5 true (.done none)))))))) (.ret))))⟩
def c_spec_l22Draw : Fun := ⟨98, [true], fun ts K => as1 ts fun t0 => arQ pCurT t0 fun c => chk (CurOk c) (∀ (a : List Inst) (b : List Inst) (t : Two) (d : Cur), ((a.length ≤ 20 ∧ b.length ≤ 20) ∧ LTwo t 24 ∧ CurOk d) → K (.tup [.c (tl true .inst a), .c (tl true .inst b), .g (t.tc true [])]) ([curOut d]))⟩
theorem run_spec_l22Draw (c : Cur) (hpre : CurOk c) {K : Tree → List Tree → Prop} (hK : ∀ (a : List Inst) (b : List Inst) (t : Two) (d : Cur), ((a.length ≤ 20 ∧ b.length ≤ 20) ∧ LTwo t 24 ∧ CurOk d) → K (.tup [.c (tl true .inst a), .c (tl true .inst b), .g (t.tc true [])]) ([curOut d])) : runK [c_spec_l1Below, c_spec_l22DrawRight, c_spec_l3Draw, c_spec_l8Draw] (0) [true] pf_spec_l22Draw [.v (.ptr true 0 (c.tc []))] K := by
  conv => whnf
  repeat' (first | (refine sel_i (fun h => ?_) (fun h => ?_) <;> conv => whnf) | (refine chk_c ?_ ?_ <;> conv => whnf) | (refine And.intro ?_ rfl) | (refine And.intro ?_ ?_ <;> conv => whnf) | (intro x y z d hd; (try have g1 := And.left hd); (try have g2 := And.right hd); (try have g3 := And.left (And.right hd)); (try have g4 := And.right (And.right hd)); conv => whnf) | (intro x y d hd; (try have g1 := And.left hd); (try have g2 := And.right hd); (try have g3 := And.left (And.right hd)); (try have g4 := And.right (And.right hd)); conv => whnf) | (intro x d hd; (try have g1 := And.left hd); (try have g2 := And.right hd); (try have g3 := And.left (And.right hd)); (try have g4 := And.right (And.right hd)); conv => whnf) | (intro d hd; (try have g1 := And.left hd); (try have g2 := And.right hd); (try have g3 := And.left (And.right hd)); (try have g4 := And.right (And.right hd)); conv => whnf))
  all_goals first
    | (refine ⟨?_⟩; exact hd)
    | (refine ⟨?_⟩; exact hd.2)
    | (refine ⟨?_⟩; exact hd.2.2)
    | (refine ⟨?_⟩; exact hpre)
    | (refine ⟨?_⟩; decide)
    | (refine ⟨?_⟩; rfl)
    | (obtain ⟨hm, ha, hb⟩ := twoOk_parts (t := z) (by assumption); have a1 := ha.1; refine ⟨?_⟩; simp [a1]; done)
    | (obtain ⟨hm, ha, hb⟩ := twoOk_parts (t := z) (by assumption); obtain ⟨m1, m2, m3⟩ := memoryOk_iff.1 hm; have a1 := ha.1; have b1 := hb.1
       refine kTwo (fun t ht => hK _ _ t _ ht) _ _ _ _ _ _ _ _ _ _ _ _ _ _ _ _ _ _ ⟨⟨?_, ?_⟩, ⟨⟨?_, ?_⟩, ?_, ?_⟩, ?_⟩ <;> first | omega | (simp [win]; omega) | exact hd | exact hd.2 | exact hd.1.1 | exact hd.1.2 | trace_state)
    | trace_state
theorem ok_spec_l22Draw : FunOk Tryz.prog c_spec_l22Draw := funOkR (E := [c_spec_l1Below, c_spec_l22DrawRight, c_spec_l3Draw, c_spec_l8Draw]) (envOk_cons ok_spec_l1Below (envOk_cons ok_spec_l22DrawRight (envOk_cons ok_spec_l3Draw (envOk_cons ok_spec_l8Draw (envOk_nil))))) mixd Tryz.func98 (pf := pf_spec_l22Draw) (by kernel_rfl) fun ts K h => by
  obtain ⟨t0, e0, h⟩ := as1_out h
  subst e0
  obtain ⟨c, e1, hq⟩ := arQ_out rd_cur h
  clear h
  subst e1
  have h := hq
  clear hq
  obtain ⟨hpre, h⟩ := chk_o h
  exact ⟨Nat.le_of_ble_eq_true (show Nat.ble 1 Tryz.f98.ntmps = true by kernel_rfl), _, run_spec_l22Draw c hpre h⟩

def pf_spec_DrawTwoStep : PF := ⟨[.t 2, .t 3, .c 4 true 18, .t 5], .seq (.reg [.s (.mv 2 (.k (.v (.c (.nils .inst))))), .s (.mv 3 (.k (.v (.c (.nils .inst))))), .s (.alloc 4 [.nils .word, .nils .bool, .nils .word, .int .i64 0, .ff, .int .i64 0, .int .i64 0, .int .i64 0, .int .i64 0, .int .i64 0, .nils .word, .int .i64 0, .ff, .int .i64 0, .int .i64 0, .int .i64 0, .int .i64 0, .int .i64 0]), .s (.mv 5 (.k (.v (.c (.int .i64 0)))))]) (.seq (.reg [.s (.mv 10 (.t 0)), .s (.call (some 11) 64 [(.t 10)]), .s (.mv 6 (.t 11))]) (.seq (.reg [.s (.mv 13 (.t 6)), .s (.call (some 14) 98 [(.t 13)]), .s (.mv 12 (.t 14)), .s (.ext 15 (.t 12) 0), .s (.ext 16 (.t 12) 1), .s (.ext 17 (.t 12) 2), .s (.alloc 9 [.nils .word, .nils .bool, .nils .word, .int .i64 0, .ff, .int .i64 0, .int .i64 0, .int .i64 0, .int .i64 0, .int .i64 0, .nils .word, .int .i64 0, .ff, .int .i64 0, .int .i64 0, .int .i64 0, .int .i64 0, .int .i64 0]), .s (.mv 7 (.t 15)), .s (.mv 8 (.t 16)), .s (.store 18 (.t 9) (.t 17))]) (.seq (.rgd [6] [.s (.mv 18 (.t 7)), .s (.mv 19 (.t 8)), .s (.load 20 true 18 (.t 9)), .s (.mv 21 (.t 6)), .s (.call (some 22) 99 [(.t 21), (.k (.v (.c (.int .i64 4))))]), .s (.bin 23 .sub (.t 22) (.k (.v (.c (.int .i64 1))))), .s (.mv 2 (.t 18)), .s (.mv 3 (.t 19)), .s (.store 18 (.t 4) (.t 20)), .s (.mv 5 (.t 23))] (.tk 0 (.tk 1 (.tk 2 (.tk 3 (.one 4 false (.tk 5 (.tk 6 (.tk 7 (.one 8 true (.tk 9 (.done none)))))))))))) (.ret))))⟩
def c_spec_DrawTwoStep : Fun := ⟨32, [], fun ts K => as1 ts fun t0 => arC (pL (.int .u8)) t0 fun code => chk (code.length ≤ 1048576) (∀ (a : List Inst) (b : List Inst) (t : Two) (n : Int), ((a.length ≤ 20 ∧ b.length ≤ 20) ∧ LTwo t 24) → K (.tup [.c (tl true .inst a), .c (tl true .inst b), .g (t.tc true []), .c (.int .i64 n)]) [])⟩
theorem run_spec_DrawTwoStep (code : List (FT.Ty (.int .u8))) (hpre : code.length ≤ 1048576) {K : Tree → List Tree → Prop} (hK : ∀ (a : List Inst) (b : List Inst) (t : Two) (n : Int), ((a.length ≤ 20 ∧ b.length ≤ 20) ∧ LTwo t 24) → K (.tup [.c (tl true .inst a), .c (tl true .inst b), .g (t.tc true []), .c (.int .i64 n)]) []) : runK [c_spec_l1New, c_spec_l22Draw, c_spec_l1Below] (0) [] pf_spec_DrawTwoStep [tL false (.int .u8) code] K := by
  conv => whnf
  repeat' (first | (refine sel_i (fun h => ?_) (fun h => ?_) <;> conv => whnf) | (refine chk_c ?_ ?_ <;> conv => whnf) | (refine And.intro ?_ rfl) | (refine And.intro ?_ ?_ <;> conv => whnf) | (intro x y z d hd; (try have g1 := And.left hd); (try have g2 := And.right hd); (try have g3 := And.left (And.right hd)); (try have g4 := And.right (And.right hd)); conv => whnf) | (intro x y d hd; (try have g1 := And.left hd); (try have g2 := And.right hd); (try have g3 := And.left (And.right hd)); (try have g4 := And.right (And.right hd)); conv => whnf) | (intro x d hd; (try have g1 := And.left hd); (try have g2 := And.right hd); (try have g3 := And.left (And.right hd)); (try have g4 := And.right (And.right hd)); conv => whnf) | (intro d hd; (try have g1 := And.left hd); (try have g2 := And.right hd); (try have g3 := And.left (And.right hd)); (try have g4 := And.right (And.right hd)); conv => whnf))
  all_goals (try simp only [etaKey, etaWord, etaMemory, etaSide, etaTwo] at *)
  all_goals first
    | (refine ⟨?_⟩; exact hd)
    | (refine ⟨?_⟩; exact hd.2)
    | (refine ⟨?_⟩; exact hd.2.2)
    | (refine ⟨?_⟩; exact hpre)
    | (refine ⟨?_⟩; exact ⟨hd.2, by simp⟩)
    | (refine ⟨?_⟩; exact ⟨hd.2.2, by simp⟩)
    | (refine ⟨?_⟩; decide)
    | (refine ⟨?_⟩; rfl)
    | (refine hK _ _ z _ ⟨⟨?_, ?_⟩, by assumption⟩ <;> omega)
    | trace_state
theorem ok_spec_DrawTwoStep : FunOk Tryz.prog c_spec_DrawTwoStep := funOkR (E := [c_spec_l1New, c_spec_l22Draw, c_spec_l1Below]) (envOk_cons ok_spec_l1New (envOk_cons ok_spec_l22Draw (envOk_cons ok_spec_l1Below (envOk_nil)))) mixd Tryz.func32 (pf := pf_spec_DrawTwoStep) (by kernel_rfl) fun ts K h => by
  obtain ⟨t0, e0, h⟩ := as1_out h
  subst e0
  obtain ⟨code, e1, hq⟩ := arC_out (rd_l (.int .u8)) h
  clear h
  subst e1
  have h := hq
  clear hq
  obtain ⟨hpre, h⟩ := chk_o h
  exact ⟨Nat.le_of_ble_eq_true (show Nat.ble 1 Tryz.f32.ntmps = true by kernel_rfl), _, run_spec_DrawTwoStep code hpre h⟩

def pf_spec_DrawTwoRun : PF := ⟨[.t 2, .t 3, .c 4 true 18, .t 5], .seq (.reg [.s (.mv 2 (.k (.v (.c (.nils .inst))))), .s (.mv 3 (.k (.v (.c (.nils .inst))))), .s (.alloc 4 [.nils .word, .nils .bool, .nils .word, .int .i64 0, .ff, .int .i64 0, .int .i64 0, .int .i64 0, .int .i64 0, .int .i64 0, .nils .word, .int .i64 0, .ff, .int .i64 0, .int .i64 0, .int .i64 0, .int .i64 0, .int .i64 0]), .s (.mv 5 (.k (.v (.c (.nils (.int .i64))))))]) (.seq (.reg [.s (.mv 11 (.t 0)), .s (.call (some 12) 64 [(.t 11)]), .s (.mv 6 (.t 12))]) (.seq (.reg [.s (.mv 14 (.t 6)), .s (.call (some 15) 98 [(.t 14)]), .s (.mv 13 (.t 15)), .s (.ext 16 (.t 13) 0), .s (.ext 17 (.t 13) 1), .s (.ext 18 (.t 13) 2), .s (.alloc 9 [.nils .word, .nils .bool, .nils .word, .int .i64 0, .ff, .int .i64 0, .int .i64 0, .int .i64 0, .int .i64 0, .int .i64 0, .nils .word, .int .i64 0, .ff, .int .i64 0, .int .i64 0, .int .i64 0, .int .i64 0, .int .i64 0]), .s (.mv 7 (.t 16)), .s (.mv 8 (.t 17)), .s (.store 18 (.t 9) (.t 18))]) (.seq (.reg [.s (.mv 19 (.t 6)), .s (.call (some 20) 103 [(.t 19), (.k (.v (.c (.int .i64 20))))]), .s (.mv 10 (.t 20))]) (.seq (.seq (.reg [.s (.mv 21 (.t 6)), .s (.call (some 22) 66 [(.t 21), (.k (.v (.c (.int .i64 60))))])]) (.cond (.t 22) (.reg [.s (.mv 23 (.t 6)), .s (.call (some 24) 99 [(.t 23), (.k (.v (.c (.int .i64 2))))]), .s (.bin 25 .add (.k (.v (.c (.int .i64 600)))) (.t 24)), .s (.mkS 26 (.int .i64) (.t 25)), .s (.mv 10 (.t 26))]) (.skip))) (.seq (.rgd [] [.s (.mv 27 (.t 7)), .s (.mv 28 (.t 8)), .s (.load 29 true 18 (.t 9)), .s (.mv 30 (.t 10)), .s (.mv 2 (.t 27)), .s (.mv 3 (.t 28)), .s (.store 18 (.t 4) (.t 29)), .s (.mv 5 (.t 30))] (.tk 0 (.tk 1 (.tk 2 (.tk 3 (.tk 4 (.tk 5 (.one 6 true (.tk 7 (.done none)))))))))) (.ret))))))⟩
def c_spec_DrawTwoRun : Fun := ⟨35, [], fun ts K => as1 ts fun t0 => arC (pL (.int .u8)) t0 fun code => chk (code.length ≤ 1048576) (∀ (a : List Inst) (b : List Inst) (t : Two) (l : List Int), ((a.length ≤ 20 ∧ b.length ≤ 20) ∧ LTwo t 24 ∧ l.length ≤ 1048576) → K (.tup [.c (tl true .inst a), .c (tl true .inst b), .g (t.tc true []), .c (tl true (.int .i64) l)]) [])⟩
theorem run_spec_DrawTwoRun (code : List (FT.Ty (.int .u8))) (hpre : code.length ≤ 1048576) {K : Tree → List Tree → Prop} (hK : ∀ (a : List Inst) (b : List Inst) (t : Two) (l : List Int), ((a.length ≤ 20 ∧ b.length ≤ 20) ∧ LTwo t 24 ∧ l.length ≤ 1048576) → K (.tup [.c (tl true .inst a), .c (tl true .inst b), .g (t.tc true []), .c (tl true (.int .i64) l)]) []) : runK [c_spec_l1New, c_spec_l1Once, c_spec_l22Draw, c_spec_l1Below, c_spec_l22DrawOrder] (0) [] pf_spec_DrawTwoRun [tL false (.int .u8) code] K := by
  conv => whnf
  repeat' (first | (refine sel_i (fun h => ?_) (fun h => ?_) <;> conv => whnf) | (refine chk_c ?_ ?_ <;> conv => whnf) | (refine And.intro ?_ rfl) | (refine And.intro ?_ ?_ <;> conv => whnf) | (intro x y z d hd; (try have g1 := And.left hd); (try have g2 := And.right hd); (try have g3 := And.left (And.right hd)); (try have g4 := And.right (And.right hd)); conv => whnf) | (intro x y d hd; (try have g1 := And.left hd); (try have g2 := And.right hd); (try have g3 := And.left (And.right hd)); (try have g4 := And.right (And.right hd)); conv => whnf) | (intro x d hd; (try have g1 := And.left hd); (try have g2 := And.right hd); (try have g3 := And.left (And.right hd)); (try have g4 := And.right (And.right hd)); conv => whnf) | (intro d hd; (try have g1 := And.left hd); (try have g2 := And.right hd); (try have g3 := And.left (And.right hd)); (try have g4 := And.right (And.right hd)); conv => whnf))
  all_goals (try simp only [etaKey, etaWord, etaMemory, etaSide, etaTwo] at *)
  all_goals first
    | (refine ⟨?_⟩; exact hd)
    | (refine ⟨?_⟩; exact hd.2)
    | (refine ⟨?_⟩; exact hd.2.2)
    | (refine ⟨?_⟩; exact hpre)
    | (refine ⟨?_⟩; exact ⟨hd.2, by simp⟩)
    | (refine ⟨?_⟩; exact ⟨hd.2.2, by simp⟩)
    | (refine ⟨?_⟩; decide)
    | (refine ⟨?_⟩; rfl)
    | (refine ⟨?_⟩; rw [wrap_id (n := 600 + x) (by omega) (by omega)]; omega)
    | (refine hK _ _ z _ ⟨⟨?_, ?_⟩, by assumption, ?_⟩ <;> first | omega | (rw [List.length_replicate, wrap_id (n := 600 + x) (by omega) (by omega)]; omega))
    | trace_state
theorem ok_spec_DrawTwoRun : FunOk Tryz.prog c_spec_DrawTwoRun := funOkR (E := [c_spec_l1New, c_spec_l1Once, c_spec_l22Draw, c_spec_l1Below, c_spec_l22DrawOrder]) (envOk_cons ok_spec_l1New (envOk_cons ok_spec_l1Once (envOk_cons ok_spec_l22Draw (envOk_cons ok_spec_l1Below (envOk_cons ok_spec_l22DrawOrder (envOk_nil)))))) mixd Tryz.func35 (pf := pf_spec_DrawTwoRun) (by kernel_rfl) fun ts K h => by
  obtain ⟨t0, e0, h⟩ := as1_out h
  subst e0
  obtain ⟨code, e1, hq⟩ := arC_out (rd_l (.int .u8)) h
  clear h
  subst e1
  have h := hq
  clear hq
  obtain ⟨hpre, h⟩ := chk_o h
  exact ⟨Nat.le_of_ble_eq_true (show Nat.ble 1 Tryz.f35.ntmps = true by kernel_rfl), _, run_spec_DrawTwoRun code hpre h⟩

def pf_spec_DrawSideState : PF := ⟨[.c 2 true 18, .t 3], .seq (.reg [.s (.alloc 2 [.nils .word, .nils .bool, .nils .word, .int .i64 0, .ff, .int .i64 0, .int .i64 0, .int .i64 0, .int .i64 0, .int .i64 0, .nils .word, .int .i64 0, .ff, .int .i64 0, .int .i64 0, .int .i64 0, .int .i64 0, .int .i64 0]), .s (.mv 3 (.k (.v (.c (.int .i64 0)))))]) (.seq (.reg [.s (.mv 8 (.t 0)), .s (.call (some 9) 64 [(.t 8)]), .s (.mv 4 (.t 9))]) (.seq (.reg [.s (.mv 11 (.t 4)), .s (.call (some 12) 98 [(.t 11)]), .s (.mv 10 (.t 12)), .s (.ext 13 (.t 10) 0), .s (.ext 14 (.t 10) 1), .s (.ext 15 (.t 10) 2), .s (.alloc 7 [.nils .word, .nils .bool, .nils .word, .int .i64 0, .ff, .int .i64 0, .int .i64 0, .int .i64 0, .int .i64 0, .int .i64 0, .nils .word, .int .i64 0, .ff, .int .i64 0, .int .i64 0, .int .i64 0, .int .i64 0, .int .i64 0]), .s (.mv 5 (.t 13)), .s (.mv 6 (.t 14)), .s (.store 18 (.t 7) (.t 15))]) (.seq (.rgd [4] [.s (.load 16 true 18 (.t 7)), .s (.mv 17 (.t 4)), .s (.call (some 18) 99 [(.t 17), (.k (.v (.c (.int .i64 4))))]), .s (.bin 19 .sub (.t 18) (.k (.v (.c (.int .i64 1))))), .s (.store 18 (.t 2) (.t 16)), .s (.mv 3 (.t 19))] (.tk 0 (.tk 1 (.one 2 false (.tk 3 (.one 4 true (.tk 5 (.done none)))))))) (.ret))))⟩
def c_spec_DrawSideState : Fun := ⟨36, [], fun ts K => as1 ts fun t0 => arC (pL (.int .u8)) t0 fun code => chk (code.length ≤ 1048576) (∀ (t : Two) (n : Int), (LTwo t 24) → K (.tup [.g (t.tc true []), .c (.int .i64 n)]) [])⟩
theorem run_spec_DrawSideState (code : List (FT.Ty (.int .u8))) (hpre : code.length ≤ 1048576) {K : Tree → List Tree → Prop} (hK : ∀ (t : Two) (n : Int), (LTwo t 24) → K (.tup [.g (t.tc true []), .c (.int .i64 n)]) []) : runK [c_spec_l1New, c_spec_l22Draw, c_spec_l1Below] (0) [] pf_spec_DrawSideState [tL false (.int .u8) code] K := by
  conv => whnf
  repeat' (first | (refine sel_i (fun h => ?_) (fun h => ?_) <;> conv => whnf) | (refine chk_c ?_ ?_ <;> conv => whnf) | (refine And.intro ?_ rfl) | (refine And.intro ?_ ?_ <;> conv => whnf) | (intro x y z d hd; (try have g1 := And.left hd); (try have g2 := And.right hd); (try have g3 := And.left (And.right hd)); (try have g4 := And.right (And.right hd)); conv => whnf) | (intro x y d hd; (try have g1 := And.left hd); (try have g2 := And.right hd); (try have g3 := And.left (And.right hd)); (try have g4 := And.right (And.right hd)); conv => whnf) | (intro x d hd; (try have g1 := And.left hd); (try have g2 := And.right hd); (try have g3 := And.left (And.right hd)); (try have g4 := And.right (And.right hd)); conv => whnf) | (intro d hd; (try have g1 := And.left hd); (try have g2 := And.right hd); (try have g3 := And.left (And.right hd)); (try have g4 := And.right (And.right hd)); conv => whnf))
  all_goals (try simp only [etaKey, etaWord, etaMemory, etaSide, etaTwo] at *)
  all_goals first
    | (refine ⟨?_⟩; exact hd)
    | (refine ⟨?_⟩; exact hd.2)
    | (refine ⟨?_⟩; exact hd.2.2)
    | (refine ⟨?_⟩; exact hpre)
    | (refine ⟨?_⟩; exact ⟨hd.2, by simp⟩)
    | (refine ⟨?_⟩; exact ⟨hd.2.2, by simp⟩)
    | (refine ⟨?_⟩; decide)
    | (refine ⟨?_⟩; rfl)
    | (exact hK z _ (by assumption))
    | trace_state
theorem ok_spec_DrawSideState : FunOk Tryz.prog c_spec_DrawSideState := funOkR (E := [c_spec_l1New, c_spec_l22Draw, c_spec_l1Below]) (envOk_cons ok_spec_l1New (envOk_cons ok_spec_l22Draw (envOk_cons ok_spec_l1Below (envOk_nil)))) mixd Tryz.func36 (pf := pf_spec_DrawSideState) (by kernel_rfl) fun ts K h => by
  obtain ⟨t0, e0, h⟩ := as1_out h
  subst e0
  obtain ⟨code, e1, hq⟩ := arC_out (rd_l (.int .u8)) h
  clear h
  subst e1
  have h := hq
  clear hq
  obtain ⟨hpre, h⟩ := chk_o h
  exact ⟨Nat.le_of_ble_eq_true (show Nat.ble 1 Tryz.f36.ntmps = true by kernel_rfl), _, run_spec_DrawSideState code hpre h⟩

def pf_spec_DrawTwoOk : PF := ⟨[.c 2 true 18], .seq (.reg [.s (.alloc 2 [.nils .word, .nils .bool, .nils .word, .int .i64 0, .ff, .int .i64 0, .int .i64 0, .int .i64 0, .int .i64 0, .int .i64 0, .nils .word, .int .i64 0, .ff, .int .i64 0, .int .i64 0, .int .i64 0, .int .i64 0, .int .i64 0])]) (.seq (.reg [.s (.mv 7 (.t 0)), .s (.call (some 8) 64 [(.t 7)]), .s (.call (some 9) 98 [(.t 8)]), .s (.mv 6 (.t 9)), .s (.ext 10 (.t 6) 0), .s (.ext 11 (.t 6) 1), .s (.ext 12 (.t 6) 2), .s (.alloc 5 [.nils .word, .nils .bool, .nils .word, .int .i64 0, .ff, .int .i64 0, .int .i64 0, .int .i64 0, .int .i64 0, .int .i64 0, .nils .word, .int .i64 0, .ff, .int .i64 0, .int .i64 0, .int .i64 0, .int .i64 0, .int .i64 0]), .s (.mv 3 (.t 10)), .s (.mv 4 (.t 11)), .s (.store 18 (.t 5) (.t 12))]) (.seq (.reg [.s (.load 13 true 18 (.t 5)), .s (.store 18 (.t 2) (.t 13))]) (.ret)))⟩
def c_spec_DrawTwoOk : Fun := ⟨37, [], fun ts K => as1 ts fun t0 => arC (pL (.int .u8)) t0 fun code => chk (code.length ≤ 1048576) (∀ (t : Two), (LTwo t 24) → K (tG (t.tc true [])) [])⟩
theorem run_spec_DrawTwoOk (code : List (FT.Ty (.int .u8))) (hpre : code.length ≤ 1048576) {K : Tree → List Tree → Prop} (hK : ∀ (t : Two), (LTwo t 24) → K (tG (t.tc true [])) []) : runK [c_spec_l1New, c_spec_l22Draw] (0) [] pf_spec_DrawTwoOk [tL false (.int .u8) code] K := by
  conv => whnf
  repeat' (first | (refine sel_i (fun h => ?_) (fun h => ?_) <;> conv => whnf) | (refine chk_c ?_ ?_ <;> conv => whnf) | (refine And.intro ?_ rfl) | (refine And.intro ?_ ?_ <;> conv => whnf) | (intro x y z d hd; (try have g1 := And.left hd); (try have g2 := And.right hd); (try have g3 := And.left (And.right hd)); (try have g4 := And.right (And.right hd)); conv => whnf) | (intro x y d hd; (try have g1 := And.left hd); (try have g2 := And.right hd); (try have g3 := And.left (And.right hd)); (try have g4 := And.right (And.right hd)); conv => whnf) | (intro x d hd; (try have g1 := And.left hd); (try have g2 := And.right hd); (try have g3 := And.left (And.right hd)); (try have g4 := And.right (And.right hd)); conv => whnf) | (intro d hd; (try have g1 := And.left hd); (try have g2 := And.right hd); (try have g3 := And.left (And.right hd)); (try have g4 := And.right (And.right hd)); conv => whnf))
  all_goals (try simp only [etaKey, etaWord, etaMemory, etaSide, etaTwo] at *)
  all_goals first
    | (refine ⟨?_⟩; exact hd)
    | (refine ⟨?_⟩; exact hd.2)
    | (refine ⟨?_⟩; exact hd.2.2)
    | (refine ⟨?_⟩; exact hpre)
    | (refine ⟨?_⟩; exact ⟨hd.2, by simp⟩)
    | (refine ⟨?_⟩; exact ⟨hd.2.2, by simp⟩)
    | (refine ⟨?_⟩; decide)
    | (refine ⟨?_⟩; rfl)
    | (exact hK z (by assumption))
    | trace_state
theorem ok_spec_DrawTwoOk : FunOk Tryz.prog c_spec_DrawTwoOk := funOkR (E := [c_spec_l1New, c_spec_l22Draw]) (envOk_cons ok_spec_l1New (envOk_cons ok_spec_l22Draw (envOk_nil))) mixd Tryz.func37 (pf := pf_spec_DrawTwoOk) (by kernel_rfl) fun ts K h => by
  obtain ⟨t0, e0, h⟩ := as1_out h
  subst e0
  obtain ⟨code, e1, hq⟩ := arC_out (rd_l (.int .u8)) h
  clear h
  subst e1
  have h := hq
  clear hq
  obtain ⟨hpre, h⟩ := chk_o h
  exact ⟨Nat.le_of_ble_eq_true (show Nat.ble 1 Tryz.f37.ntmps = true by kernel_rfl), _, run_spec_DrawTwoOk code hpre h⟩

theorem ts_is {a b : List Inst} {t : Two} {w : Int} (h : (!(twoStep a b t w).2) = false) : twoOk t = true ∧ inR w 0 1 = true := by
  unfold twoStep at h
  split at h
  · cases h
  · rename_i q
    exact ⟨by cases e : twoOk t with | true => rfl | false => exact absurd (.inl e) q, by cases e : inR w 0 1 with | true => rfl | false => exact absurd (.inr e) q⟩
theorem ts_no {a b : List Inst} {t : Two} {w : Int} (h : (!(twoStep a b t w).2) = true) : decide ((twoStep a b t w).1 = t) = true := by
  unfold twoStep at h ⊢
  split at h
  · rename_i q; rw [if_pos q]; exact decide_eq_true rfl
  · cases h
theorem sideOk_of {s : State} (h : stateOk s = true) : SideOk ⟨s.regs, s.pc, s.trap⟩ := by
  obtain ⟨a1, a2, a3, a4, a5, a6⟩ := stateOk_iff.1 h
  exact ⟨a1, a2, a3, a5, a6⟩
theorem ts_parts {a b : List Inst} {t : Two} {w : Int} (h : (!(twoStep a b t w).2) = false) :
    twoOk (twoStep a b t w).1 = true ∧ ((w == 0) = true → (twoStep a b t w).1.b = t.b) ∧ ((w == 0) = false → (twoStep a b t w).1.a = t.a) := by
  obtain ⟨h1, h2⟩ := ts_is h
  have hw := inR_t.1 h2
  obtain ⟨p1, p2, p3⟩ := twoOk_parts h1
  by_cases e : w = 1
  · rw [twoStep_1 h1 h2 e]
    subst e
    have hs := stepS_ok (l := b) (twoOk_iff.1 h1).2
    exact ⟨twoOk_of (stateOk_iff.1 hs).2.2.2.1 p2 (sideOk_of hs), fun q => absurd q (by decide), fun _ => rfl⟩
  · have e : w = 0 := by omega
    rw [twoStep_0 h1 h2 (by omega)]
    subst e
    have hs := stepS_ok (l := a) (twoOk_iff.1 h1).1
    exact ⟨twoOk_of (stateOk_iff.1 hs).2.2.2.1 (sideOk_of hs) p3, fun _ => rfl, fun q => absurd q (by decide)⟩
theorem LTwo.big {t : Two} (h : LTwo t 24) : LTwo t 2147483647 := h.mono (by decide)
end Go.Pi
